/- The configuration of the abstract machine for this seat, and closed facts on its types. Written by ai_gen.py. -/
import Derived.Test.YtngedkiffapofaaProg
import Derived.Test.YtngedkiffapofaaAiEv
import Derived.Test.YtngedkiffapofaaAiVar
import Derived.Test.YtngedkiffapofaaAiPrim
namespace Go.Ai
open Go.Proofs

def normsOf : FuncId → Nat → Norm
  | 3, 5 => ⟨[3, 4, 5, 13, 15, 45, 46, 47], [3, 4, 5, 12, 13, 15], []⟩
  | 3, 16 => ⟨[13, 135, 136, 137], [12, 13], []⟩
  | 4, 3 => ⟨[7, 19, 20, 21], [6, 7], []⟩
  | 5, 5 => ⟨[11, 59, 60, 61], [10, 11], []⟩
  | 6, 9 => ⟨[7, 8, 11, 12, 13, 14], [6, 7, 12, 13], []⟩
  | 8, 6 => ⟨[2, 7, 8, 9, 10, 11, 12], [6, 7, 9, 10, 11], []⟩
  | 11, 4 => ⟨[0, 1, 5, 6, 7], [4, 5], [(5, 43, 2)]⟩
  | 12, 6 => ⟨[0, 5, 6], [2, 3, 5], []⟩
  | 13, 5 => ⟨[4, 14, 15, 16], [2, 3, 4], []⟩
  | 13, 8 => ⟨[4, 6, 14, 15, 16, 25, 26], [2, 3, 4, 6, 14, 15, 16], []⟩
  | 16, 2 => ⟨[0, 1, 6], [4, 5], []⟩
  | 17, 3 => ⟨[0, 3, 6, 7, 8], [0, 2], []⟩
  | 18, 2 => ⟨[0, 3], [0, 2], []⟩
  | 19, 4 => ⟨[2, 3, 4], [2, 3], [(2, 43, 2)]⟩
  | 20, 5 => ⟨[0, 4, 5], [2, 3, 4], [(4, 43, 2)]⟩
  | 21, 4 => ⟨[0, 1, 5], [4], []⟩
  | 22, 4 => ⟨[0, 4], [0, 2, 3, 4], []⟩
  | 27, 2 => ⟨[0, 1, 7, 8], [4], []⟩
  | 30, 4 => ⟨[0, 5, 6, 7], [0, 2, 3, 4], []⟩
  | 35, 0 => ⟨[0, 1], [0, 1], []⟩
  | 37, 8 => ⟨[0, 5, 6, 7], [2, 3, 4, 5, 6], []⟩
  | 38, 2 => ⟨[0, 6, 7], [2], []⟩
  | _, _ => ⟨[], [], []⟩
def heapOf : FuncId → Bool
  | 24 => true
  | 25 => true
  | 26 => true
  | 29 => true
  | 32 => true
  | 33 => true
  | 34 => true
  | 54 => true
  | _ => false
def drawsOf : FuncId → Nat → Option (List Nat)
  | 3, 15 => some [0, 1, 2, 3, 4, 5, 6, 7, 8, 9, 10, 11, 12, 13, 14, 15, 16, 17, 18, 19, 20, 21, 22, 23, 24, 25, 26, 27, 28, 31, 29, 30]
  | 5, 4 => some [0, 1, 2, 3, 4, 5, 6, 7, 8, 9, 10, 11, 12, 13, 14, 15, 16, 17, 18, 19, 20, 21, 22, 23, 24, 27, 25, 26]
  | 18, 4 => some [0, 1, 2, 3, 4, 5, 6, 7, 8, 9, 10, 11, 12, 13, 14, 15, 16, 17, 18, 19, 20, 21, 22, 23, 24, 25, 26, 27, 28, 29, 30, 31, 32, 33, 34, 35, 36, 37, 38, 39, 40]
  | 21, 6 => some [0, 1, 2, 3, 4, 5, 6, 7, 8]
  | 29, 4 => some [0, 1, 2, 3, 4, 5, 6, 7, 8, 9, 10, 11]
  | _, _ => none
def primOf : FuncId → Option Prim
  | 23 => some primPut
  | 26 => some (primString 49 5)
  | 32 => some (primCheck 49)
  | _ => none
def shpOf : FuncId → List (List (Option Nat))
  | 3 => [[some 2], [some 2], [some 1], [none], [none], [none]]
  | 4 => [[some 2], [some 1], [some 2]]
  | 5 => [[none], [some 2], [some 1], [none], [none]]
  | 6 => [[some 2], [some 1], [none]]
  | 7 => [[some 2], [some 1], [none]]
  | 8 => [[some 2], [some 1], [none]]
  | 9 => [[some 2], [some 1], [none]]
  | 11 => [[some 2], [some 1]]
  | 12 => [[some 2]]
  | 13 => [[some 2]]
  | 14 => [[some 2], [none]]
  | 16 => [[some 2], [none]]
  | 17 => [[some 2]]
  | 18 => [[some 2]]
  | 21 => [[some 2], [some 2]]
  | 27 => [[some 2], [none]]
  | _ => []
noncomputable def C : Cfg := { P := Try.prog, norms := normsOf, heap := heapOf, draws := drawsOf, prim := primOf, shp := shpOf }
theorem C_P : C.P = Try.prog := rfl
theorem C_norms (f n : Nat) : C.norms f n = normsOf f n := rfl
theorem C_heap (f : Nat) : C.heap f = heapOf f := rfl
theorem C_draws (f n : Nat) : C.draws f n = drawsOf f n := rfl
theorem C_prim (f : Nat) : C.prim f = primOf f := rfl
theorem C_shp (f : Nat) : C.shp f = shpOf f := rfl
theorem sz_2 : szOf Try.prog 2 = 1 := by kernel_rfl
theorem so_2 : szO Try.prog 2 = some 1 := by kernel_rfl
theorem ag_2 : isAg Try.prog 2 = some false := by kernel_rfl
theorem sh_2 : shapes Try.prog 10 2 = [.int .i64] := by kernel_rfl
theorem ze_2 : zeroC Try.prog 2 = some [.v (.int .i64 0)] := by kernel_rfl
theorem un_2 : Try.prog.underlying 2 = some (.int .i64) := by kernel_rfl
theorem ap_2 : appOk Try.prog 2 = true := by kernel_rfl
theorem by_2 : byOf Try.prog 2 = 8 := by kernel_rfl
theorem sz_3 : szOf Try.prog 3 = 1 := by kernel_rfl
theorem so_3 : szO Try.prog 3 = some 1 := by kernel_rfl
theorem ag_3 : isAg Try.prog 3 = some false := by kernel_rfl
theorem sh_3 : shapes Try.prog 10 3 = [.int .i64] := by kernel_rfl
theorem ze_3 : zeroC Try.prog 3 = some [.v (.int .i64 0)] := by kernel_rfl
theorem un_3 : Try.prog.underlying 3 = some (.int .i64) := by kernel_rfl
theorem ap_3 : appOk Try.prog 3 = true := by kernel_rfl
theorem by_3 : byOf Try.prog 3 = 8 := by kernel_rfl
theorem sz_4 : szOf Try.prog 4 = 1 := by kernel_rfl
theorem so_4 : szO Try.prog 4 = some 1 := by kernel_rfl
theorem ag_4 : isAg Try.prog 4 = some false := by kernel_rfl
theorem sh_4 : shapes Try.prog 10 4 = [.bool] := by kernel_rfl
theorem ze_4 : zeroC Try.prog 4 = some [.v (.bool false)] := by kernel_rfl
theorem un_4 : Try.prog.underlying 4 = some .bool := by kernel_rfl
theorem ap_4 : appOk Try.prog 4 = true := by kernel_rfl
theorem by_4 : byOf Try.prog 4 = 1 := by kernel_rfl
theorem sz_5 : szOf Try.prog 5 = 1 := by kernel_rfl
theorem so_5 : szO Try.prog 5 = some 1 := by kernel_rfl
theorem ag_5 : isAg Try.prog 5 = some false := by kernel_rfl
theorem sh_5 : shapes Try.prog 10 5 = [.int .u8] := by kernel_rfl
theorem ze_5 : zeroC Try.prog 5 = some [.v (.int .u8 0)] := by kernel_rfl
theorem un_5 : Try.prog.underlying 5 = some (.int .u8) := by kernel_rfl
theorem ap_5 : appOk Try.prog 5 = true := by kernel_rfl
theorem by_5 : byOf Try.prog 5 = 1 := by kernel_rfl
theorem sz_6 : szOf Try.prog 6 = 1 := by kernel_rfl
theorem so_6 : szO Try.prog 6 = some 1 := by kernel_rfl
theorem ag_6 : isAg Try.prog 6 = some false := by kernel_rfl
theorem sh_6 : shapes Try.prog 10 6 = [.int .u8] := by kernel_rfl
theorem ze_6 : zeroC Try.prog 6 = some [.v (.int .u8 0)] := by kernel_rfl
theorem un_6 : Try.prog.underlying 6 = some (.int .u8) := by kernel_rfl
theorem ap_6 : appOk Try.prog 6 = true := by kernel_rfl
theorem by_6 : byOf Try.prog 6 = 1 := by kernel_rfl
theorem sz_7 : szOf Try.prog 7 = 4 := by kernel_rfl
theorem so_7 : szO Try.prog 7 = some 4 := by kernel_rfl
theorem ag_7 : isAg Try.prog 7 = some true := by kernel_rfl
theorem sh_7 : shapes Try.prog 10 7 = [.int .i64, .int .i64, .bool, .int .u8] := by kernel_rfl
theorem ze_7 : zeroC Try.prog 7 = some [.v (.int .i64 0), .v (.int .i64 0), .v (.bool false), .v (.int .u8 0)] := by kernel_rfl
theorem fo_7_0 : fieldOf Try.prog 7 0 = some (0, 2) := by kernel_rfl
theorem pl_7_0 : placesA Try.prog 7 0 = some (0, 1) := by kernel_rfl
theorem fo_7_1 : fieldOf Try.prog 7 1 = some (1, 3) := by kernel_rfl
theorem pl_7_1 : placesA Try.prog 7 1 = some (1, 1) := by kernel_rfl
theorem fo_7_2 : fieldOf Try.prog 7 2 = some (2, 4) := by kernel_rfl
theorem pl_7_2 : placesA Try.prog 7 2 = some (2, 1) := by kernel_rfl
theorem fo_7_3 : fieldOf Try.prog 7 3 = some (3, 6) := by kernel_rfl
theorem pl_7_3 : placesA Try.prog 7 3 = some (3, 1) := by kernel_rfl
theorem ap_7 : appOk Try.prog 7 = true := by kernel_rfl
theorem pd_7 : placed Try.prog 7 = true := by kernel_rfl
theorem by_7 : byOf Try.prog 7 = 24 := by kernel_rfl
theorem sz_8 : szOf Try.prog 8 = 4 := by kernel_rfl
theorem so_8 : szO Try.prog 8 = some 4 := by kernel_rfl
theorem ag_8 : isAg Try.prog 8 = some true := by kernel_rfl
theorem sh_8 : shapes Try.prog 10 8 = [.int .i64, .int .i64, .bool, .int .u8] := by kernel_rfl
theorem ze_8 : zeroC Try.prog 8 = some [.v (.int .i64 0), .v (.int .i64 0), .v (.bool false), .v (.int .u8 0)] := by kernel_rfl
theorem fo_8_0 : fieldOf Try.prog 8 0 = some (0, 2) := by kernel_rfl
theorem pl_8_0 : placesA Try.prog 8 0 = some (0, 1) := by kernel_rfl
theorem fo_8_1 : fieldOf Try.prog 8 1 = some (1, 3) := by kernel_rfl
theorem pl_8_1 : placesA Try.prog 8 1 = some (1, 1) := by kernel_rfl
theorem fo_8_2 : fieldOf Try.prog 8 2 = some (2, 4) := by kernel_rfl
theorem pl_8_2 : placesA Try.prog 8 2 = some (2, 1) := by kernel_rfl
theorem fo_8_3 : fieldOf Try.prog 8 3 = some (3, 6) := by kernel_rfl
theorem pl_8_3 : placesA Try.prog 8 3 = some (3, 1) := by kernel_rfl
theorem ap_8 : appOk Try.prog 8 = true := by kernel_rfl
theorem pd_8 : placed Try.prog 8 = true := by kernel_rfl
theorem by_8 : byOf Try.prog 8 = 24 := by kernel_rfl
theorem sz_9 : szOf Try.prog 9 = 1 := by kernel_rfl
theorem so_9 : szO Try.prog 9 = some 1 := by kernel_rfl
theorem ag_9 : isAg Try.prog 9 = some false := by kernel_rfl
theorem sh_9 : shapes Try.prog 10 9 = [.str] := by kernel_rfl
theorem ze_9 : zeroC Try.prog 9 = some [.v (.string ⟨#[]⟩)] := by kernel_rfl
theorem un_9 : Try.prog.underlying 9 = some .string := by kernel_rfl
theorem ap_9 : appOk Try.prog 9 = true := by kernel_rfl
theorem by_9 : byOf Try.prog 9 = 16 := by kernel_rfl
theorem sz_10 : szOf Try.prog 10 = 1 := by kernel_rfl
theorem so_10 : szO Try.prog 10 = some 1 := by kernel_rfl
theorem ag_10 : isAg Try.prog 10 = some false := by kernel_rfl
theorem sh_10 : shapes Try.prog 10 10 = [.str] := by kernel_rfl
theorem ze_10 : zeroC Try.prog 10 = some [.v (.string ⟨#[]⟩)] := by kernel_rfl
theorem un_10 : Try.prog.underlying 10 = some .string := by kernel_rfl
theorem ap_10 : appOk Try.prog 10 = true := by kernel_rfl
theorem by_10 : byOf Try.prog 10 = 16 := by kernel_rfl
theorem sz_11 : szOf Try.prog 11 = 1 := by kernel_rfl
theorem so_11 : szO Try.prog 11 = some 1 := by kernel_rfl
theorem ag_11 : isAg Try.prog 11 = some false := by kernel_rfl
theorem sh_11 : shapes Try.prog 10 11 = [.str] := by kernel_rfl
theorem ze_11 : zeroC Try.prog 11 = some [.v (.string ⟨#[]⟩)] := by kernel_rfl
theorem un_11 : Try.prog.underlying 11 = some .string := by kernel_rfl
theorem ap_11 : appOk Try.prog 11 = true := by kernel_rfl
theorem by_11 : byOf Try.prog 11 = 16 := by kernel_rfl
theorem sz_12 : szOf Try.prog 12 = 1 := by kernel_rfl
theorem so_12 : szO Try.prog 12 = some 1 := by kernel_rfl
theorem ag_12 : isAg Try.prog 12 = some false := by kernel_rfl
theorem sh_12 : shapes Try.prog 10 12 = [.int .u64] := by kernel_rfl
theorem ze_12 : zeroC Try.prog 12 = some [.v (.int .u64 0)] := by kernel_rfl
theorem un_12 : Try.prog.underlying 12 = some (.int .u64) := by kernel_rfl
theorem ap_12 : appOk Try.prog 12 = true := by kernel_rfl
theorem by_12 : byOf Try.prog 12 = 8 := by kernel_rfl
theorem sz_13 : szOf Try.prog 13 = 2 := by kernel_rfl
theorem so_13 : szO Try.prog 13 = some 2 := by kernel_rfl
theorem ag_13 : isAg Try.prog 13 = some true := by kernel_rfl
theorem sh_13 : shapes Try.prog 10 13 = [.str, .int .u64] := by kernel_rfl
theorem ze_13 : zeroC Try.prog 13 = some [.v (.string ⟨#[]⟩), .v (.int .u64 0)] := by kernel_rfl
theorem fo_13_0 : fieldOf Try.prog 13 0 = some (0, 9) := by kernel_rfl
theorem pl_13_0 : placesA Try.prog 13 0 = some (0, 1) := by kernel_rfl
theorem fo_13_1 : fieldOf Try.prog 13 1 = some (1, 12) := by kernel_rfl
theorem pl_13_1 : placesA Try.prog 13 1 = some (1, 1) := by kernel_rfl
theorem ap_13 : appOk Try.prog 13 = true := by kernel_rfl
theorem pd_13 : placed Try.prog 13 = true := by kernel_rfl
theorem by_13 : byOf Try.prog 13 = 24 := by kernel_rfl
theorem sz_14 : szOf Try.prog 14 = 2 := by kernel_rfl
theorem so_14 : szO Try.prog 14 = some 2 := by kernel_rfl
theorem ag_14 : isAg Try.prog 14 = some true := by kernel_rfl
theorem sh_14 : shapes Try.prog 10 14 = [.str, .int .u64] := by kernel_rfl
theorem ze_14 : zeroC Try.prog 14 = some [.v (.string ⟨#[]⟩), .v (.int .u64 0)] := by kernel_rfl
theorem fo_14_0 : fieldOf Try.prog 14 0 = some (0, 9) := by kernel_rfl
theorem pl_14_0 : placesA Try.prog 14 0 = some (0, 1) := by kernel_rfl
theorem fo_14_1 : fieldOf Try.prog 14 1 = some (1, 12) := by kernel_rfl
theorem pl_14_1 : placesA Try.prog 14 1 = some (1, 1) := by kernel_rfl
theorem ap_14 : appOk Try.prog 14 = true := by kernel_rfl
theorem pd_14 : placed Try.prog 14 = true := by kernel_rfl
theorem by_14 : byOf Try.prog 14 = 24 := by kernel_rfl
theorem sz_15 : szOf Try.prog 15 = 1 := by kernel_rfl
theorem so_15 : szO Try.prog 15 = some 1 := by kernel_rfl
theorem ag_15 : isAg Try.prog 15 = some false := by kernel_rfl
theorem ze_15 : zeroC Try.prog 15 = some [.v (.pointer none)] := by kernel_rfl
theorem pt_15 : ptrOf Try.prog 15 = some 78 := by kernel_rfl
theorem ap_15 : appOk Try.prog 15 = true := by kernel_rfl
theorem by_15 : byOf Try.prog 15 = 8 := by kernel_rfl
theorem sz_16 : szOf Try.prog 16 = 1 := by kernel_rfl
theorem so_16 : szO Try.prog 16 = some 1 := by kernel_rfl
theorem ag_16 : isAg Try.prog 16 = some false := by kernel_rfl
theorem ze_16 : zeroC Try.prog 16 = some [.v (.pointer none)] := by kernel_rfl
theorem pt_16 : ptrOf Try.prog 16 = some 81 := by kernel_rfl
theorem ap_16 : appOk Try.prog 16 = true := by kernel_rfl
theorem by_16 : byOf Try.prog 16 = 8 := by kernel_rfl
theorem sz_17 : szOf Try.prog 17 = 1 := by kernel_rfl
theorem so_17 : szO Try.prog 17 = some 1 := by kernel_rfl
theorem ag_17 : isAg Try.prog 17 = some false := by kernel_rfl
theorem ze_17 : zeroC Try.prog 17 = some [.v (.pointer none)] := by kernel_rfl
theorem pt_17 : ptrOf Try.prog 17 = some 89 := by kernel_rfl
theorem ap_17 : appOk Try.prog 17 = true := by kernel_rfl
theorem by_17 : byOf Try.prog 17 = 8 := by kernel_rfl
theorem sz_18 : szOf Try.prog 18 = 1 := by kernel_rfl
theorem so_18 : szO Try.prog 18 = some 1 := by kernel_rfl
theorem ag_18 : isAg Try.prog 18 = some true := by kernel_rfl
theorem ze_18 : zeroC Try.prog 18 = some [.v (.pointer none)] := by kernel_rfl
theorem fo_18_0 : fieldOf Try.prog 18 0 = some (0, 17) := by kernel_rfl
theorem pl_18_0 : placesA Try.prog 18 0 = some (0, 1) := by kernel_rfl
theorem ap_18 : appOk Try.prog 18 = true := by kernel_rfl
theorem pd_18 : placed Try.prog 18 = true := by kernel_rfl
theorem by_18 : byOf Try.prog 18 = 8 := by kernel_rfl
theorem sz_19 : szOf Try.prog 19 = 1 := by kernel_rfl
theorem so_19 : szO Try.prog 19 = some 1 := by kernel_rfl
theorem ag_19 : isAg Try.prog 19 = some true := by kernel_rfl
theorem ze_19 : zeroC Try.prog 19 = some [.v (.pointer none)] := by kernel_rfl
theorem fo_19_0 : fieldOf Try.prog 19 0 = some (0, 17) := by kernel_rfl
theorem pl_19_0 : placesA Try.prog 19 0 = some (0, 1) := by kernel_rfl
theorem ap_19 : appOk Try.prog 19 = true := by kernel_rfl
theorem pd_19 : placed Try.prog 19 = true := by kernel_rfl
theorem by_19 : byOf Try.prog 19 = 8 := by kernel_rfl
theorem sz_21 : szOf Try.prog 21 = 1 := by kernel_rfl
theorem so_21 : szO Try.prog 21 = some 1 := by kernel_rfl
theorem ag_21 : isAg Try.prog 21 = some false := by kernel_rfl
theorem sh_21 : shapes Try.prog 10 21 = [.int .i32] := by kernel_rfl
theorem ze_21 : zeroC Try.prog 21 = some [.v (.int .i32 0)] := by kernel_rfl
theorem un_21 : Try.prog.underlying 21 = some (.int .i32) := by kernel_rfl
theorem ap_21 : appOk Try.prog 21 = true := by kernel_rfl
theorem by_21 : byOf Try.prog 21 = 4 := by kernel_rfl
theorem sz_22 : szOf Try.prog 22 = 1 := by kernel_rfl
theorem so_22 : szO Try.prog 22 = some 1 := by kernel_rfl
theorem ag_22 : isAg Try.prog 22 = some false := by kernel_rfl
theorem sh_22 : shapes Try.prog 10 22 = [.sl 2] := by kernel_rfl
theorem ze_22 : zeroC Try.prog 22 = some [.v (.slice none 0 0)] := by kernel_rfl
theorem el_22 : elemOfS Try.prog 22 = some 43 := by kernel_rfl
theorem un_22 : Try.prog.underlying 22 = some (.slice 43) := by kernel_rfl
theorem ap_22 : appOk Try.prog 22 = true := by kernel_rfl
theorem by_22 : byOf Try.prog 22 = 24 := by kernel_rfl
theorem sz_23 : szOf Try.prog 23 = 1 := by kernel_rfl
theorem so_23 : szO Try.prog 23 = some 1 := by kernel_rfl
theorem ag_23 : isAg Try.prog 23 = some false := by kernel_rfl
theorem sh_23 : shapes Try.prog 10 23 = [.sl 2] := by kernel_rfl
theorem ze_23 : zeroC Try.prog 23 = some [.v (.slice none 0 0)] := by kernel_rfl
theorem el_23 : elemOfS Try.prog 23 = some 44 := by kernel_rfl
theorem un_23 : Try.prog.underlying 23 = some (.slice 44) := by kernel_rfl
theorem ap_23 : appOk Try.prog 23 = true := by kernel_rfl
theorem by_23 : byOf Try.prog 23 = 24 := by kernel_rfl
theorem sz_24 : szOf Try.prog 24 = 1 := by kernel_rfl
theorem so_24 : szO Try.prog 24 = some 1 := by kernel_rfl
theorem ag_24 : isAg Try.prog 24 = some false := by kernel_rfl
theorem sh_24 : shapes Try.prog 10 24 = [.sl 1] := by kernel_rfl
theorem ze_24 : zeroC Try.prog 24 = some [.v (.slice none 0 0)] := by kernel_rfl
theorem el_24 : elemOfS Try.prog 24 = some 9 := by kernel_rfl
theorem un_24 : Try.prog.underlying 24 = some (.slice 9) := by kernel_rfl
theorem ap_24 : appOk Try.prog 24 = true := by kernel_rfl
theorem by_24 : byOf Try.prog 24 = 24 := by kernel_rfl
theorem sz_27 : szOf Try.prog 27 = 1 := by kernel_rfl
theorem so_27 : szO Try.prog 27 = some 1 := by kernel_rfl
theorem ag_27 : isAg Try.prog 27 = some false := by kernel_rfl
theorem sh_27 : shapes Try.prog 10 27 = [.int .i64] := by kernel_rfl
theorem ze_27 : zeroC Try.prog 27 = some [.v (.int .i64 0)] := by kernel_rfl
theorem un_27 : Try.prog.underlying 27 = some (.int .i64) := by kernel_rfl
theorem ap_27 : appOk Try.prog 27 = true := by kernel_rfl
theorem by_27 : byOf Try.prog 27 = 8 := by kernel_rfl
theorem sz_30 : szOf Try.prog 30 = 1 := by kernel_rfl
theorem so_30 : szO Try.prog 30 = some 1 := by kernel_rfl
theorem ag_30 : isAg Try.prog 30 = some false := by kernel_rfl
theorem sh_30 : shapes Try.prog 10 30 = [.sl 1] := by kernel_rfl
theorem ze_30 : zeroC Try.prog 30 = some [.v (.slice none 0 0)] := by kernel_rfl
theorem el_30 : elemOfS Try.prog 30 = some 22 := by kernel_rfl
theorem un_30 : Try.prog.underlying 30 = some (.slice 22) := by kernel_rfl
theorem ap_30 : appOk Try.prog 30 = true := by kernel_rfl
theorem by_30 : byOf Try.prog 30 = 24 := by kernel_rfl
theorem sz_42 : szOf Try.prog 42 = 2 := by kernel_rfl
theorem so_42 : szO Try.prog 42 = some 2 := by kernel_rfl
theorem ag_42 : isAg Try.prog 42 = some true := by kernel_rfl
theorem sh_42 : shapes Try.prog 10 42 = [.int .i64, .str] := by kernel_rfl
theorem ze_42 : zeroC Try.prog 42 = some [.v (.int .i64 0), .v (.string ⟨#[]⟩)] := by kernel_rfl
theorem fs_42 : flatSh Try.prog 42 = some [.int .i64, .str] := by kernel_rfl
theorem fo_42_0 : fieldOf Try.prog 42 0 = some (0, 3) := by kernel_rfl
theorem pl_42_0 : placesA Try.prog 42 0 = some (0, 1) := by kernel_rfl
theorem fo_42_1 : fieldOf Try.prog 42 1 = some (1, 9) := by kernel_rfl
theorem pl_42_1 : placesA Try.prog 42 1 = some (1, 1) := by kernel_rfl
theorem ap_42 : appOk Try.prog 42 = true := by kernel_rfl
theorem pd_42 : placed Try.prog 42 = true := by kernel_rfl
theorem by_42 : byOf Try.prog 42 = 24 := by kernel_rfl
theorem sz_43 : szOf Try.prog 43 = 2 := by kernel_rfl
theorem so_43 : szO Try.prog 43 = some 2 := by kernel_rfl
theorem ag_43 : isAg Try.prog 43 = some true := by kernel_rfl
theorem sh_43 : shapes Try.prog 10 43 = [.int .i64, .str] := by kernel_rfl
theorem ze_43 : zeroC Try.prog 43 = some [.v (.int .i64 0), .v (.string ⟨#[]⟩)] := by kernel_rfl
theorem fs_43 : flatSh Try.prog 43 = some [.int .i64, .str] := by kernel_rfl
theorem fo_43_0 : fieldOf Try.prog 43 0 = some (0, 3) := by kernel_rfl
theorem pl_43_0 : placesA Try.prog 43 0 = some (0, 1) := by kernel_rfl
theorem fo_43_1 : fieldOf Try.prog 43 1 = some (1, 9) := by kernel_rfl
theorem pl_43_1 : placesA Try.prog 43 1 = some (1, 1) := by kernel_rfl
theorem ap_43 : appOk Try.prog 43 = true := by kernel_rfl
theorem pd_43 : placed Try.prog 43 = true := by kernel_rfl
theorem by_43 : byOf Try.prog 43 = 24 := by kernel_rfl
theorem sz_44 : szOf Try.prog 44 = 2 := by kernel_rfl
theorem so_44 : szO Try.prog 44 = some 2 := by kernel_rfl
theorem ag_44 : isAg Try.prog 44 = some true := by kernel_rfl
theorem sh_44 : shapes Try.prog 10 44 = [.int .i64, .int .i64] := by kernel_rfl
theorem ze_44 : zeroC Try.prog 44 = some [.v (.int .i64 0), .v (.int .i64 0)] := by kernel_rfl
theorem ar_44 : arrOf Try.prog 44 = some (2, 3) := by kernel_rfl
theorem pl_44 (i : Nat) : placesA Try.prog 44 i = some (i * szOf Try.prog 3, szOf Try.prog 3) := by kernel_rfl
theorem ap_44 : appOk Try.prog 44 = true := by kernel_rfl
theorem pd_44 : placed Try.prog 44 = true := by kernel_rfl
theorem by_44 : byOf Try.prog 44 = 16 := by kernel_rfl
theorem sz_46 : szOf Try.prog 46 = 1 := by kernel_rfl
theorem so_46 : szO Try.prog 46 = some 1 := by kernel_rfl
theorem ag_46 : isAg Try.prog 46 = some false := by kernel_rfl
theorem ze_46 : zeroC Try.prog 46 = some [.v (.pointer none)] := by kernel_rfl
theorem pt_46 : ptrOf Try.prog 46 = some 49 := by kernel_rfl
theorem ap_46 : appOk Try.prog 46 = true := by kernel_rfl
theorem by_46 : byOf Try.prog 46 = 8 := by kernel_rfl
theorem sz_47 : szOf Try.prog 47 = 1 := by kernel_rfl
theorem so_47 : szO Try.prog 47 = some 1 := by kernel_rfl
theorem ag_47 : isAg Try.prog 47 = some false := by kernel_rfl
theorem sh_47 : shapes Try.prog 10 47 = [.sl 1] := by kernel_rfl
theorem ze_47 : zeroC Try.prog 47 = some [.v (.slice none 0 0)] := by kernel_rfl
theorem el_47 : elemOfS Try.prog 47 = some 5 := by kernel_rfl
theorem un_47 : Try.prog.underlying 47 = some (.slice 5) := by kernel_rfl
theorem ap_47 : appOk Try.prog 47 = true := by kernel_rfl
theorem by_47 : byOf Try.prog 47 = 24 := by kernel_rfl
theorem sz_48 : szOf Try.prog 48 = 2 := by kernel_rfl
theorem so_48 : szO Try.prog 48 = some 2 := by kernel_rfl
theorem ag_48 : isAg Try.prog 48 = some true := by kernel_rfl
theorem ze_48 : zeroC Try.prog 48 = some [.v (.pointer none), .v (.slice none 0 0)] := by kernel_rfl
theorem fo_48_0 : fieldOf Try.prog 48 0 = some (0, 46) := by kernel_rfl
theorem pl_48_0 : placesA Try.prog 48 0 = some (0, 1) := by kernel_rfl
theorem fo_48_1 : fieldOf Try.prog 48 1 = some (1, 47) := by kernel_rfl
theorem pl_48_1 : placesA Try.prog 48 1 = some (1, 1) := by kernel_rfl
theorem ap_48 : appOk Try.prog 48 = true := by kernel_rfl
theorem pd_48 : placed Try.prog 48 = true := by kernel_rfl
theorem by_48 : byOf Try.prog 48 = 32 := by kernel_rfl
theorem sz_49 : szOf Try.prog 49 = 2 := by kernel_rfl
theorem so_49 : szO Try.prog 49 = some 2 := by kernel_rfl
theorem ag_49 : isAg Try.prog 49 = some true := by kernel_rfl
theorem ze_49 : zeroC Try.prog 49 = some [.v (.pointer none), .v (.slice none 0 0)] := by kernel_rfl
theorem fo_49_0 : fieldOf Try.prog 49 0 = some (0, 46) := by kernel_rfl
theorem pl_49_0 : placesA Try.prog 49 0 = some (0, 1) := by kernel_rfl
theorem fo_49_1 : fieldOf Try.prog 49 1 = some (1, 47) := by kernel_rfl
theorem pl_49_1 : placesA Try.prog 49 1 = some (1, 1) := by kernel_rfl
theorem ap_49 : appOk Try.prog 49 = true := by kernel_rfl
theorem pd_49 : placed Try.prog 49 = true := by kernel_rfl
theorem by_49 : byOf Try.prog 49 = 32 := by kernel_rfl
theorem sz_58 : szOf Try.prog 58 = 1 := by kernel_rfl
theorem so_58 : szO Try.prog 58 = some 1 := by kernel_rfl
theorem ag_58 : isAg Try.prog 58 = some false := by kernel_rfl
theorem ze_58 : zeroC Try.prog 58 = some [.v (.pointer none)] := by kernel_rfl
theorem pt_58 : ptrOf Try.prog 58 = some 60 := by kernel_rfl
theorem ap_58 : appOk Try.prog 58 = true := by kernel_rfl
theorem by_58 : byOf Try.prog 58 = 8 := by kernel_rfl
theorem sz_59 : szOf Try.prog 59 = 2 := by kernel_rfl
theorem so_59 : szO Try.prog 59 = some 2 := by kernel_rfl
theorem ag_59 : isAg Try.prog 59 = some true := by kernel_rfl
theorem sh_59 : shapes Try.prog 10 59 = [.str, .int .i64] := by kernel_rfl
theorem ze_59 : zeroC Try.prog 59 = some [.v (.string ⟨#[]⟩), .v (.int .i64 0)] := by kernel_rfl
theorem fs_59 : flatSh Try.prog 59 = some [.str, .int .i64] := by kernel_rfl
theorem fo_59_0 : fieldOf Try.prog 59 0 = some (0, 9) := by kernel_rfl
theorem pl_59_0 : placesA Try.prog 59 0 = some (0, 1) := by kernel_rfl
theorem fo_59_1 : fieldOf Try.prog 59 1 = some (1, 3) := by kernel_rfl
theorem pl_59_1 : placesA Try.prog 59 1 = some (1, 1) := by kernel_rfl
theorem ap_59 : appOk Try.prog 59 = true := by kernel_rfl
theorem pd_59 : placed Try.prog 59 = true := by kernel_rfl
theorem by_59 : byOf Try.prog 59 = 24 := by kernel_rfl
theorem sz_60 : szOf Try.prog 60 = 2 := by kernel_rfl
theorem so_60 : szO Try.prog 60 = some 2 := by kernel_rfl
theorem ag_60 : isAg Try.prog 60 = some true := by kernel_rfl
theorem sh_60 : shapes Try.prog 10 60 = [.str, .int .i64] := by kernel_rfl
theorem ze_60 : zeroC Try.prog 60 = some [.v (.string ⟨#[]⟩), .v (.int .i64 0)] := by kernel_rfl
theorem fs_60 : flatSh Try.prog 60 = some [.str, .int .i64] := by kernel_rfl
theorem fo_60_0 : fieldOf Try.prog 60 0 = some (0, 9) := by kernel_rfl
theorem pl_60_0 : placesA Try.prog 60 0 = some (0, 1) := by kernel_rfl
theorem fo_60_1 : fieldOf Try.prog 60 1 = some (1, 3) := by kernel_rfl
theorem pl_60_1 : placesA Try.prog 60 1 = some (1, 1) := by kernel_rfl
theorem ap_60 : appOk Try.prog 60 = true := by kernel_rfl
theorem pd_60 : placed Try.prog 60 = true := by kernel_rfl
theorem by_60 : byOf Try.prog 60 = 24 := by kernel_rfl
theorem sz_68 : szOf Try.prog 68 = 1 := by kernel_rfl
theorem so_68 : szO Try.prog 68 = some 1 := by kernel_rfl
theorem ag_68 : isAg Try.prog 68 = some false := by kernel_rfl
theorem ze_68 : zeroC Try.prog 68 = some [.v (.pointer none)] := by kernel_rfl
theorem pt_68 : ptrOf Try.prog 68 = some 5 := by kernel_rfl
theorem ap_68 : appOk Try.prog 68 = true := by kernel_rfl
theorem by_68 : byOf Try.prog 68 = 8 := by kernel_rfl
theorem sz_73 : szOf Try.prog 73 = 1 := by kernel_rfl
theorem so_73 : szO Try.prog 73 = some 1 := by kernel_rfl
theorem ag_73 : isAg Try.prog 73 = some false := by kernel_rfl
theorem sh_73 : shapes Try.prog 10 73 = [.int .u64] := by kernel_rfl
theorem ze_73 : zeroC Try.prog 73 = some [.v (.int .u64 0)] := by kernel_rfl
theorem un_73 : Try.prog.underlying 73 = some (.int .u64) := by kernel_rfl
theorem ap_73 : appOk Try.prog 73 = true := by kernel_rfl
theorem by_73 : byOf Try.prog 73 = 8 := by kernel_rfl
theorem sz_77 : szOf Try.prog 77 = 4 := by kernel_rfl
theorem so_77 : szO Try.prog 77 = some 4 := by kernel_rfl
theorem ag_77 : isAg Try.prog 77 = some true := by kernel_rfl
theorem ze_77 : zeroC Try.prog 77 = some [.v (.pointer none), .v (.pointer none), .v (.pointer none), .v (.string ⟨#[]⟩)] := by kernel_rfl
theorem fo_77_0 : fieldOf Try.prog 77 0 = some (0, 17) := by kernel_rfl
theorem pl_77_0 : placesA Try.prog 77 0 = some (0, 1) := by kernel_rfl
theorem fo_77_1 : fieldOf Try.prog 77 1 = some (1, 17) := by kernel_rfl
theorem pl_77_1 : placesA Try.prog 77 1 = some (1, 1) := by kernel_rfl
theorem fo_77_2 : fieldOf Try.prog 77 2 = some (2, 17) := by kernel_rfl
theorem pl_77_2 : placesA Try.prog 77 2 = some (2, 1) := by kernel_rfl
theorem fo_77_3 : fieldOf Try.prog 77 3 = some (3, 9) := by kernel_rfl
theorem pl_77_3 : placesA Try.prog 77 3 = some (3, 1) := by kernel_rfl
theorem ap_77 : appOk Try.prog 77 = true := by kernel_rfl
theorem pd_77 : placed Try.prog 77 = true := by kernel_rfl
theorem by_77 : byOf Try.prog 77 = 40 := by kernel_rfl
theorem sz_78 : szOf Try.prog 78 = 4 := by kernel_rfl
theorem so_78 : szO Try.prog 78 = some 4 := by kernel_rfl
theorem ag_78 : isAg Try.prog 78 = some true := by kernel_rfl
theorem ze_78 : zeroC Try.prog 78 = some [.v (.pointer none), .v (.pointer none), .v (.pointer none), .v (.string ⟨#[]⟩)] := by kernel_rfl
theorem fo_78_0 : fieldOf Try.prog 78 0 = some (0, 17) := by kernel_rfl
theorem pl_78_0 : placesA Try.prog 78 0 = some (0, 1) := by kernel_rfl
theorem fo_78_1 : fieldOf Try.prog 78 1 = some (1, 17) := by kernel_rfl
theorem pl_78_1 : placesA Try.prog 78 1 = some (1, 1) := by kernel_rfl
theorem fo_78_2 : fieldOf Try.prog 78 2 = some (2, 17) := by kernel_rfl
theorem pl_78_2 : placesA Try.prog 78 2 = some (2, 1) := by kernel_rfl
theorem fo_78_3 : fieldOf Try.prog 78 3 = some (3, 9) := by kernel_rfl
theorem pl_78_3 : placesA Try.prog 78 3 = some (3, 1) := by kernel_rfl
theorem ap_78 : appOk Try.prog 78 = true := by kernel_rfl
theorem pd_78 : placed Try.prog 78 = true := by kernel_rfl
theorem by_78 : byOf Try.prog 78 = 40 := by kernel_rfl
theorem sz_79 : szOf Try.prog 79 = 0 := by kernel_rfl
theorem so_79 : szO Try.prog 79 = some 0 := by kernel_rfl
theorem ag_79 : isAg Try.prog 79 = some true := by kernel_rfl
theorem sh_79 : shapes Try.prog 10 79 = [] := by kernel_rfl
theorem ze_79 : zeroC Try.prog 79 = some [] := by kernel_rfl
theorem ar_79 : arrOf Try.prog 79 = some (0, 16) := by kernel_rfl
theorem pl_79 (i : Nat) : placesA Try.prog 79 i = some (i * szOf Try.prog 16, szOf Try.prog 16) := by kernel_rfl
theorem pd_79 : placed Try.prog 79 = true := by kernel_rfl
theorem by_79 : byOf Try.prog 79 = 0 := by kernel_rfl
theorem sz_80 : szOf Try.prog 80 = 0 := by kernel_rfl
theorem so_80 : szO Try.prog 80 = some 0 := by kernel_rfl
theorem ag_80 : isAg Try.prog 80 = some true := by kernel_rfl
theorem sh_80 : shapes Try.prog 10 80 = [] := by kernel_rfl
theorem ze_80 : zeroC Try.prog 80 = some [] := by kernel_rfl
theorem fo_80_0 : fieldOf Try.prog 80 0 = some (0, 79) := by kernel_rfl
theorem pl_80_0 : placesA Try.prog 80 0 = some (0, 0) := by kernel_rfl
theorem pd_80 : placed Try.prog 80 = true := by kernel_rfl
theorem by_80 : byOf Try.prog 80 = 0 := by kernel_rfl
theorem sz_81 : szOf Try.prog 81 = 0 := by kernel_rfl
theorem so_81 : szO Try.prog 81 = some 0 := by kernel_rfl
theorem ag_81 : isAg Try.prog 81 = some true := by kernel_rfl
theorem sh_81 : shapes Try.prog 10 81 = [] := by kernel_rfl
theorem ze_81 : zeroC Try.prog 81 = some [] := by kernel_rfl
theorem fo_81_0 : fieldOf Try.prog 81 0 = some (0, 79) := by kernel_rfl
theorem pl_81_0 : placesA Try.prog 81 0 = some (0, 0) := by kernel_rfl
theorem pd_81 : placed Try.prog 81 = true := by kernel_rfl
theorem by_81 : byOf Try.prog 81 = 0 := by kernel_rfl
theorem sz_82 : szOf Try.prog 82 = 1 := by kernel_rfl
theorem so_82 : szO Try.prog 82 = some 1 := by kernel_rfl
theorem ag_82 : isAg Try.prog 82 = some false := by kernel_rfl
theorem sh_82 : shapes Try.prog 10 82 = [.int .u32] := by kernel_rfl
theorem ze_82 : zeroC Try.prog 82 = some [.v (.int .u32 0)] := by kernel_rfl
theorem un_82 : Try.prog.underlying 82 = some (.int .u32) := by kernel_rfl
theorem ap_82 : appOk Try.prog 82 = true := by kernel_rfl
theorem by_82 : byOf Try.prog 82 = 4 := by kernel_rfl
theorem sz_83 : szOf Try.prog 83 = 1 := by kernel_rfl
theorem so_83 : szO Try.prog 83 = some 1 := by kernel_rfl
theorem ag_83 : isAg Try.prog 83 = some false := by kernel_rfl
theorem sh_83 : shapes Try.prog 10 83 = [.int .u8] := by kernel_rfl
theorem ze_83 : zeroC Try.prog 83 = some [.v (.int .u8 0)] := by kernel_rfl
theorem un_83 : Try.prog.underlying 83 = some (.int .u8) := by kernel_rfl
theorem ap_83 : appOk Try.prog 83 = true := by kernel_rfl
theorem by_83 : byOf Try.prog 83 = 1 := by kernel_rfl
theorem sz_84 : szOf Try.prog 84 = 1 := by kernel_rfl
theorem so_84 : szO Try.prog 84 = some 1 := by kernel_rfl
theorem ag_84 : isAg Try.prog 84 = some false := by kernel_rfl
theorem sh_84 : shapes Try.prog 10 84 = [.int .u8] := by kernel_rfl
theorem ze_84 : zeroC Try.prog 84 = some [.v (.int .u8 0)] := by kernel_rfl
theorem un_84 : Try.prog.underlying 84 = some (.int .u8) := by kernel_rfl
theorem ap_84 : appOk Try.prog 84 = true := by kernel_rfl
theorem by_84 : byOf Try.prog 84 = 1 := by kernel_rfl
theorem sz_86 : szOf Try.prog 86 = 1 := by kernel_rfl
theorem so_86 : szO Try.prog 86 = some 1 := by kernel_rfl
theorem ag_86 : isAg Try.prog 86 = some false := by kernel_rfl
theorem sh_86 : shapes Try.prog 10 86 = [.int .i32] := by kernel_rfl
theorem ze_86 : zeroC Try.prog 86 = some [.v (.int .i32 0)] := by kernel_rfl
theorem un_86 : Try.prog.underlying 86 = some (.int .i32) := by kernel_rfl
theorem ap_86 : appOk Try.prog 86 = true := by kernel_rfl
theorem by_86 : byOf Try.prog 86 = 4 := by kernel_rfl
theorem sz_87 : szOf Try.prog 87 = 1 := by kernel_rfl
theorem so_87 : szO Try.prog 87 = some 1 := by kernel_rfl
theorem ag_87 : isAg Try.prog 87 = some false := by kernel_rfl
theorem sh_87 : shapes Try.prog 10 87 = [.int .i32] := by kernel_rfl
theorem ze_87 : zeroC Try.prog 87 = some [.v (.int .i32 0)] := by kernel_rfl
theorem un_87 : Try.prog.underlying 87 = some (.int .i32) := by kernel_rfl
theorem ap_87 : appOk Try.prog 87 = true := by kernel_rfl
theorem by_87 : byOf Try.prog 87 = 4 := by kernel_rfl
theorem sz_88 : szOf Try.prog 88 = 11 := by kernel_rfl
theorem so_88 : szO Try.prog 88 = some 11 := by kernel_rfl
theorem ag_88 : isAg Try.prog 88 = some true := by kernel_rfl
theorem ze_88 : zeroC Try.prog 88 = some [.v (.int .u64 0), .v (.int .u64 0), .v (.int .u32 0), .v (.int .u8 0), .v (.int .u8 0), .v (.int .u8 0), .v (.int .u8 0), .v .nilFunc, .v (.pointer none), .v (.int .i32 0), .v (.int .i32 0)] := by kernel_rfl
theorem fo_88_0 : fieldOf Try.prog 88 0 = some (0, 12) := by kernel_rfl
theorem pl_88_0 : placesA Try.prog 88 0 = some (0, 1) := by kernel_rfl
theorem fo_88_1 : fieldOf Try.prog 88 1 = some (1, 12) := by kernel_rfl
theorem pl_88_1 : placesA Try.prog 88 1 = some (1, 1) := by kernel_rfl
theorem fo_88_2 : fieldOf Try.prog 88 2 = some (2, 82) := by kernel_rfl
theorem pl_88_2 : placesA Try.prog 88 2 = some (2, 1) := by kernel_rfl
theorem fo_88_3 : fieldOf Try.prog 88 3 = some (3, 83) := by kernel_rfl
theorem pl_88_3 : placesA Try.prog 88 3 = some (3, 1) := by kernel_rfl
theorem fo_88_4 : fieldOf Try.prog 88 4 = some (4, 5) := by kernel_rfl
theorem pl_88_4 : placesA Try.prog 88 4 = some (4, 1) := by kernel_rfl
theorem fo_88_5 : fieldOf Try.prog 88 5 = some (5, 5) := by kernel_rfl
theorem pl_88_5 : placesA Try.prog 88 5 = some (5, 1) := by kernel_rfl
theorem fo_88_6 : fieldOf Try.prog 88 6 = some (6, 84) := by kernel_rfl
theorem pl_88_6 : placesA Try.prog 88 6 = some (6, 1) := by kernel_rfl
theorem fo_88_7 : fieldOf Try.prog 88 7 = some (7, 85) := by kernel_rfl
theorem pl_88_7 : placesA Try.prog 88 7 = some (7, 1) := by kernel_rfl
theorem fo_88_8 : fieldOf Try.prog 88 8 = some (8, 68) := by kernel_rfl
theorem pl_88_8 : placesA Try.prog 88 8 = some (8, 1) := by kernel_rfl
theorem fo_88_9 : fieldOf Try.prog 88 9 = some (9, 86) := by kernel_rfl
theorem pl_88_9 : placesA Try.prog 88 9 = some (9, 1) := by kernel_rfl
theorem fo_88_10 : fieldOf Try.prog 88 10 = some (10, 87) := by kernel_rfl
theorem pl_88_10 : placesA Try.prog 88 10 = some (10, 1) := by kernel_rfl
theorem ap_88 : appOk Try.prog 88 = true := by kernel_rfl
theorem pd_88 : placed Try.prog 88 = true := by kernel_rfl
theorem by_88 : byOf Try.prog 88 = 48 := by kernel_rfl
theorem sz_89 : szOf Try.prog 89 = 11 := by kernel_rfl
theorem so_89 : szO Try.prog 89 = some 11 := by kernel_rfl
theorem ag_89 : isAg Try.prog 89 = some true := by kernel_rfl
theorem ze_89 : zeroC Try.prog 89 = some [.v (.int .u64 0), .v (.int .u64 0), .v (.int .u32 0), .v (.int .u8 0), .v (.int .u8 0), .v (.int .u8 0), .v (.int .u8 0), .v .nilFunc, .v (.pointer none), .v (.int .i32 0), .v (.int .i32 0)] := by kernel_rfl
theorem fo_89_0 : fieldOf Try.prog 89 0 = some (0, 12) := by kernel_rfl
theorem pl_89_0 : placesA Try.prog 89 0 = some (0, 1) := by kernel_rfl
theorem fo_89_1 : fieldOf Try.prog 89 1 = some (1, 12) := by kernel_rfl
theorem pl_89_1 : placesA Try.prog 89 1 = some (1, 1) := by kernel_rfl
theorem fo_89_2 : fieldOf Try.prog 89 2 = some (2, 82) := by kernel_rfl
theorem pl_89_2 : placesA Try.prog 89 2 = some (2, 1) := by kernel_rfl
theorem fo_89_3 : fieldOf Try.prog 89 3 = some (3, 83) := by kernel_rfl
theorem pl_89_3 : placesA Try.prog 89 3 = some (3, 1) := by kernel_rfl
theorem fo_89_4 : fieldOf Try.prog 89 4 = some (4, 5) := by kernel_rfl
theorem pl_89_4 : placesA Try.prog 89 4 = some (4, 1) := by kernel_rfl
theorem fo_89_5 : fieldOf Try.prog 89 5 = some (5, 5) := by kernel_rfl
theorem pl_89_5 : placesA Try.prog 89 5 = some (5, 1) := by kernel_rfl
theorem fo_89_6 : fieldOf Try.prog 89 6 = some (6, 84) := by kernel_rfl
theorem pl_89_6 : placesA Try.prog 89 6 = some (6, 1) := by kernel_rfl
theorem fo_89_7 : fieldOf Try.prog 89 7 = some (7, 85) := by kernel_rfl
theorem pl_89_7 : placesA Try.prog 89 7 = some (7, 1) := by kernel_rfl
theorem fo_89_8 : fieldOf Try.prog 89 8 = some (8, 68) := by kernel_rfl
theorem pl_89_8 : placesA Try.prog 89 8 = some (8, 1) := by kernel_rfl
theorem fo_89_9 : fieldOf Try.prog 89 9 = some (9, 86) := by kernel_rfl
theorem pl_89_9 : placesA Try.prog 89 9 = some (9, 1) := by kernel_rfl
theorem fo_89_10 : fieldOf Try.prog 89 10 = some (10, 87) := by kernel_rfl
theorem pl_89_10 : placesA Try.prog 89 10 = some (10, 1) := by kernel_rfl
theorem ap_89 : appOk Try.prog 89 = true := by kernel_rfl
theorem pd_89 : placed Try.prog 89 = true := by kernel_rfl
theorem by_89 : byOf Try.prog 89 = 48 := by kernel_rfl
theorem fn_2 : Try.prog.funcs[2]? = some Try.f2 := Try.func2
theorem fn_3 : Try.prog.funcs[3]? = some Try.f3 := Try.func3
theorem fn_4 : Try.prog.funcs[4]? = some Try.f4 := Try.func4
theorem fn_5 : Try.prog.funcs[5]? = some Try.f5 := Try.func5
theorem fn_6 : Try.prog.funcs[6]? = some Try.f6 := Try.func6
theorem fn_7 : Try.prog.funcs[7]? = some Try.f7 := Try.func7
theorem fn_8 : Try.prog.funcs[8]? = some Try.f8 := Try.func8
theorem fn_9 : Try.prog.funcs[9]? = some Try.f9 := Try.func9
theorem fn_10 : Try.prog.funcs[10]? = some Try.f10 := Try.func10
theorem fn_11 : Try.prog.funcs[11]? = some Try.f11 := Try.func11
theorem fn_12 : Try.prog.funcs[12]? = some Try.f12 := Try.func12
theorem fn_13 : Try.prog.funcs[13]? = some Try.f13 := Try.func13
theorem fn_14 : Try.prog.funcs[14]? = some Try.f14 := Try.func14
theorem fn_15 : Try.prog.funcs[15]? = some Try.f15 := Try.func15
theorem fn_16 : Try.prog.funcs[16]? = some Try.f16 := Try.func16
theorem fn_17 : Try.prog.funcs[17]? = some Try.f17 := Try.func17
theorem fn_18 : Try.prog.funcs[18]? = some Try.f18 := Try.func18
theorem fn_19 : Try.prog.funcs[19]? = some Try.f19 := Try.func19
theorem fn_20 : Try.prog.funcs[20]? = some Try.f20 := Try.func20
theorem fn_21 : Try.prog.funcs[21]? = some Try.f21 := Try.func21
theorem fn_22 : Try.prog.funcs[22]? = some Try.f22 := Try.func22
theorem fn_23 : Try.prog.funcs[23]? = some Try.f23 := Try.func23
theorem fn_24 : Try.prog.funcs[24]? = some Try.f24 := Try.func24
theorem fn_25 : Try.prog.funcs[25]? = some Try.f25 := Try.func25
theorem fn_26 : Try.prog.funcs[26]? = some Try.f26 := Try.func26
theorem fn_27 : Try.prog.funcs[27]? = some Try.f27 := Try.func27
theorem fn_28 : Try.prog.funcs[28]? = some Try.f28 := Try.func28
theorem fn_29 : Try.prog.funcs[29]? = some Try.f29 := Try.func29
theorem fn_30 : Try.prog.funcs[30]? = some Try.f30 := Try.func30
theorem fn_31 : Try.prog.funcs[31]? = some Try.f31 := Try.func31
theorem fn_32 : Try.prog.funcs[32]? = some Try.f32 := Try.func32
theorem fn_33 : Try.prog.funcs[33]? = some Try.f33 := Try.func33
theorem fn_34 : Try.prog.funcs[34]? = some Try.f34 := Try.func34
theorem fn_35 : Try.prog.funcs[35]? = some Try.f35 := Try.func35
theorem fn_37 : Try.prog.funcs[37]? = some Try.f37 := Try.func37
theorem fn_38 : Try.prog.funcs[38]? = some Try.f38 := Try.func38
theorem ok_2 : okF C 2 Try.f2 = true := by kernel_rfl
theorem ok_3 : okF C 3 Try.f3 = true := by kernel_rfl
theorem ok_4 : okF C 4 Try.f4 = true := by kernel_rfl
theorem ok_5 : okF C 5 Try.f5 = true := by kernel_rfl
theorem ok_6 : okF C 6 Try.f6 = true := by kernel_rfl
theorem ok_7 : okF C 7 Try.f7 = true := by kernel_rfl
theorem ok_8 : okF C 8 Try.f8 = true := by kernel_rfl
theorem ok_9 : okF C 9 Try.f9 = true := by kernel_rfl
theorem ok_10 : okF C 10 Try.f10 = true := by kernel_rfl
theorem ok_11 : okF C 11 Try.f11 = true := by kernel_rfl
theorem ok_12 : okF C 12 Try.f12 = true := by kernel_rfl
theorem ok_13 : okF C 13 Try.f13 = true := by kernel_rfl
theorem ok_14 : okF C 14 Try.f14 = true := by kernel_rfl
theorem ok_15 : okF C 15 Try.f15 = true := by kernel_rfl
theorem ok_16 : okF C 16 Try.f16 = true := by kernel_rfl
theorem ok_17 : okF C 17 Try.f17 = true := by kernel_rfl
theorem ok_18 : okF C 18 Try.f18 = true := by kernel_rfl
theorem ok_19 : okF C 19 Try.f19 = true := by kernel_rfl
theorem ok_20 : okF C 20 Try.f20 = true := by kernel_rfl
theorem ok_21 : okF C 21 Try.f21 = true := by kernel_rfl
theorem ok_22 : okF C 22 Try.f22 = true := by kernel_rfl
theorem ok_23 : okF C 23 Try.f23 = true := by kernel_rfl
theorem ok_24 : okF C 24 Try.f24 = true := by kernel_rfl
theorem ok_25 : okF C 25 Try.f25 = true := by kernel_rfl
theorem ok_26 : okF C 26 Try.f26 = true := by kernel_rfl
theorem ok_27 : okF C 27 Try.f27 = true := by kernel_rfl
theorem ok_28 : okF C 28 Try.f28 = true := by kernel_rfl
theorem ok_29 : okF C 29 Try.f29 = true := by kernel_rfl
theorem ok_30 : okF C 30 Try.f30 = true := by kernel_rfl
theorem ok_31 : okF C 31 Try.f31 = true := by kernel_rfl
theorem ok_32 : okF C 32 Try.f32 = true := by kernel_rfl
theorem ok_33 : okF C 33 Try.f33 = true := by kernel_rfl
theorem ok_34 : okF C 34 Try.f34 = true := by kernel_rfl
theorem ok_35 : okF C 35 Try.f35 = true := by kernel_rfl
theorem ok_37 : okF C 37 Try.f37 = true := by kernel_rfl
theorem ok_38 : okF C 38 Try.f38 = true := by kernel_rfl
set_option maxRecDepth 100000
theorem EVF : type_of% (And.intro @sz_2 (And.intro @so_2 (And.intro @ag_2 (And.intro @sh_2 (And.intro @ze_2 (And.intro @un_2 (And.intro @ap_2 (And.intro @by_2 (And.intro @sz_3 (And.intro @so_3 (And.intro @ag_3 (And.intro @sh_3 (And.intro @ze_3 (And.intro @un_3 (And.intro @ap_3 (And.intro @by_3 (And.intro @sz_4 (And.intro @so_4 (And.intro @ag_4 (And.intro @sh_4 (And.intro @ze_4 (And.intro @un_4 (And.intro @ap_4 (And.intro @by_4 (And.intro @sz_5 (And.intro @so_5 (And.intro @ag_5 (And.intro @sh_5 (And.intro @ze_5 (And.intro @un_5 (And.intro @ap_5 (And.intro @by_5 (And.intro @sz_6 (And.intro @so_6 (And.intro @ag_6 (And.intro @sh_6 (And.intro @ze_6 (And.intro @un_6 (And.intro @ap_6 (And.intro @by_6 (And.intro @sz_7 (And.intro @so_7 (And.intro @ag_7 (And.intro @sh_7 (And.intro @ze_7 (And.intro @fo_7_0 (And.intro @pl_7_0 (And.intro @fo_7_1 (And.intro @pl_7_1 (And.intro @fo_7_2 (And.intro @pl_7_2 (And.intro @fo_7_3 (And.intro @pl_7_3 (And.intro @ap_7 (And.intro @pd_7 (And.intro @by_7 (And.intro @sz_8 (And.intro @so_8 (And.intro @ag_8 (And.intro @sh_8 (And.intro @ze_8 (And.intro @fo_8_0 (And.intro @pl_8_0 (And.intro @fo_8_1 (And.intro @pl_8_1 (And.intro @fo_8_2 (And.intro @pl_8_2 (And.intro @fo_8_3 (And.intro @pl_8_3 (And.intro @ap_8 (And.intro @pd_8 (And.intro @by_8 (And.intro @sz_9 (And.intro @so_9 (And.intro @ag_9 (And.intro @sh_9 (And.intro @ze_9 (And.intro @un_9 (And.intro @ap_9 (And.intro @by_9 (And.intro @sz_10 (And.intro @so_10 (And.intro @ag_10 (And.intro @sh_10 (And.intro @ze_10 (And.intro @un_10 (And.intro @ap_10 (And.intro @by_10 (And.intro @sz_11 (And.intro @so_11 (And.intro @ag_11 (And.intro @sh_11 (And.intro @ze_11 (And.intro @un_11 (And.intro @ap_11 (And.intro @by_11 (And.intro @sz_12 (And.intro @so_12 (And.intro @ag_12 (And.intro @sh_12 (And.intro @ze_12 (And.intro @un_12 (And.intro @ap_12 (And.intro @by_12 (And.intro @sz_13 (And.intro @so_13 (And.intro @ag_13 (And.intro @sh_13 (And.intro @ze_13 (And.intro @fo_13_0 (And.intro @pl_13_0 (And.intro @fo_13_1 (And.intro @pl_13_1 (And.intro @ap_13 (And.intro @pd_13 (And.intro @by_13 (And.intro @sz_14 (And.intro @so_14 (And.intro @ag_14 (And.intro @sh_14 (And.intro @ze_14 (And.intro @fo_14_0 (And.intro @pl_14_0 (And.intro @fo_14_1 (And.intro @pl_14_1 (And.intro @ap_14 (And.intro @pd_14 (And.intro @by_14 (And.intro @sz_15 (And.intro @so_15 (And.intro @ag_15 (And.intro @ze_15 (And.intro @pt_15 (And.intro @ap_15 (And.intro @by_15 (And.intro @sz_16 (And.intro @so_16 (And.intro @ag_16 (And.intro @ze_16 (And.intro @pt_16 (And.intro @ap_16 (And.intro @by_16 (And.intro @sz_17 (And.intro @so_17 (And.intro @ag_17 (And.intro @ze_17 (And.intro @pt_17 (And.intro @ap_17 (And.intro @by_17 (And.intro @sz_18 (And.intro @so_18 (And.intro @ag_18 (And.intro @ze_18 (And.intro @fo_18_0 (And.intro @pl_18_0 (And.intro @ap_18 (And.intro @pd_18 (And.intro @by_18 (And.intro @sz_19 (And.intro @so_19 (And.intro @ag_19 (And.intro @ze_19 (And.intro @fo_19_0 (And.intro @pl_19_0 (And.intro @ap_19 (And.intro @pd_19 (And.intro @by_19 (And.intro @sz_21 (And.intro @so_21 (And.intro @ag_21 (And.intro @sh_21 (And.intro @ze_21 (And.intro @un_21 (And.intro @ap_21 (And.intro @by_21 (And.intro @sz_22 (And.intro @so_22 (And.intro @ag_22 (And.intro @sh_22 (And.intro @ze_22 (And.intro @el_22 (And.intro @un_22 (And.intro @ap_22 (And.intro @by_22 (And.intro @sz_23 (And.intro @so_23 (And.intro @ag_23 (And.intro @sh_23 (And.intro @ze_23 (And.intro @el_23 (And.intro @un_23 (And.intro @ap_23 (And.intro @by_23 (And.intro @sz_24 (And.intro @so_24 (And.intro @ag_24 (And.intro @sh_24 (And.intro @ze_24 (And.intro @el_24 (And.intro @un_24 (And.intro @ap_24 (And.intro @by_24 (And.intro @sz_27 (And.intro @so_27 (And.intro @ag_27 (And.intro @sh_27 (And.intro @ze_27 (And.intro @un_27 (And.intro @ap_27 (And.intro @by_27 (And.intro @sz_30 (And.intro @so_30 (And.intro @ag_30 (And.intro @sh_30 (And.intro @ze_30 (And.intro @el_30 (And.intro @un_30 (And.intro @ap_30 (And.intro @by_30 (And.intro @sz_42 (And.intro @so_42 (And.intro @ag_42 (And.intro @sh_42 (And.intro @ze_42 (And.intro @fs_42 (And.intro @fo_42_0 (And.intro @pl_42_0 (And.intro @fo_42_1 (And.intro @pl_42_1 (And.intro @ap_42 (And.intro @pd_42 (And.intro @by_42 (And.intro @sz_43 (And.intro @so_43 (And.intro @ag_43 (And.intro @sh_43 (And.intro @ze_43 (And.intro @fs_43 (And.intro @fo_43_0 (And.intro @pl_43_0 (And.intro @fo_43_1 (And.intro @pl_43_1 (And.intro @ap_43 (And.intro @pd_43 (And.intro @by_43 (And.intro @sz_44 (And.intro @so_44 (And.intro @ag_44 (And.intro @sh_44 (And.intro @ze_44 (And.intro @ar_44 (And.intro @pl_44 (And.intro @ap_44 (And.intro @pd_44 (And.intro @by_44 (And.intro @sz_46 (And.intro @so_46 (And.intro @ag_46 (And.intro @ze_46 (And.intro @pt_46 (And.intro @ap_46 (And.intro @by_46 (And.intro @sz_47 (And.intro @so_47 (And.intro @ag_47 (And.intro @sh_47 (And.intro @ze_47 (And.intro @el_47 (And.intro @un_47 (And.intro @ap_47 (And.intro @by_47 (And.intro @sz_48 (And.intro @so_48 (And.intro @ag_48 (And.intro @ze_48 (And.intro @fo_48_0 (And.intro @pl_48_0 (And.intro @fo_48_1 (And.intro @pl_48_1 (And.intro @ap_48 (And.intro @pd_48 (And.intro @by_48 (And.intro @sz_49 (And.intro @so_49 (And.intro @ag_49 (And.intro @ze_49 (And.intro @fo_49_0 (And.intro @pl_49_0 (And.intro @fo_49_1 (And.intro @pl_49_1 (And.intro @ap_49 (And.intro @pd_49 (And.intro @by_49 (And.intro @sz_58 (And.intro @so_58 (And.intro @ag_58 (And.intro @ze_58 (And.intro @pt_58 (And.intro @ap_58 (And.intro @by_58 (And.intro @sz_59 (And.intro @so_59 (And.intro @ag_59 (And.intro @sh_59 (And.intro @ze_59 (And.intro @fs_59 (And.intro @fo_59_0 (And.intro @pl_59_0 (And.intro @fo_59_1 (And.intro @pl_59_1 (And.intro @ap_59 (And.intro @pd_59 (And.intro @by_59 (And.intro @sz_60 (And.intro @so_60 (And.intro @ag_60 (And.intro @sh_60 (And.intro @ze_60 (And.intro @fs_60 (And.intro @fo_60_0 (And.intro @pl_60_0 (And.intro @fo_60_1 (And.intro @pl_60_1 (And.intro @ap_60 (And.intro @pd_60 (And.intro @by_60 (And.intro @sz_68 (And.intro @so_68 (And.intro @ag_68 (And.intro @ze_68 (And.intro @pt_68 (And.intro @ap_68 (And.intro @by_68 (And.intro @sz_73 (And.intro @so_73 (And.intro @ag_73 (And.intro @sh_73 (And.intro @ze_73 (And.intro @un_73 (And.intro @ap_73 (And.intro @by_73 (And.intro @sz_77 (And.intro @so_77 (And.intro @ag_77 (And.intro @ze_77 (And.intro @fo_77_0 (And.intro @pl_77_0 (And.intro @fo_77_1 (And.intro @pl_77_1 (And.intro @fo_77_2 (And.intro @pl_77_2 (And.intro @fo_77_3 (And.intro @pl_77_3 (And.intro @ap_77 (And.intro @pd_77 (And.intro @by_77 (And.intro @sz_78 (And.intro @so_78 (And.intro @ag_78 (And.intro @ze_78 (And.intro @fo_78_0 (And.intro @pl_78_0 (And.intro @fo_78_1 (And.intro @pl_78_1 (And.intro @fo_78_2 (And.intro @pl_78_2 (And.intro @fo_78_3 (And.intro @pl_78_3 (And.intro @ap_78 (And.intro @pd_78 (And.intro @by_78 (And.intro @sz_79 (And.intro @so_79 (And.intro @ag_79 (And.intro @sh_79 (And.intro @ze_79 (And.intro @ar_79 (And.intro @pl_79 (And.intro @pd_79 (And.intro @by_79 (And.intro @sz_80 (And.intro @so_80 (And.intro @ag_80 (And.intro @sh_80 (And.intro @ze_80 (And.intro @fo_80_0 (And.intro @pl_80_0 (And.intro @pd_80 (And.intro @by_80 (And.intro @sz_81 (And.intro @so_81 (And.intro @ag_81 (And.intro @sh_81 (And.intro @ze_81 (And.intro @fo_81_0 (And.intro @pl_81_0 (And.intro @pd_81 (And.intro @by_81 (And.intro @sz_82 (And.intro @so_82 (And.intro @ag_82 (And.intro @sh_82 (And.intro @ze_82 (And.intro @un_82 (And.intro @ap_82 (And.intro @by_82 (And.intro @sz_83 (And.intro @so_83 (And.intro @ag_83 (And.intro @sh_83 (And.intro @ze_83 (And.intro @un_83 (And.intro @ap_83 (And.intro @by_83 (And.intro @sz_84 (And.intro @so_84 (And.intro @ag_84 (And.intro @sh_84 (And.intro @ze_84 (And.intro @un_84 (And.intro @ap_84 (And.intro @by_84 (And.intro @sz_86 (And.intro @so_86 (And.intro @ag_86 (And.intro @sh_86 (And.intro @ze_86 (And.intro @un_86 (And.intro @ap_86 (And.intro @by_86 (And.intro @sz_87 (And.intro @so_87 (And.intro @ag_87 (And.intro @sh_87 (And.intro @ze_87 (And.intro @un_87 (And.intro @ap_87 (And.intro @by_87 (And.intro @sz_88 (And.intro @so_88 (And.intro @ag_88 (And.intro @ze_88 (And.intro @fo_88_0 (And.intro @pl_88_0 (And.intro @fo_88_1 (And.intro @pl_88_1 (And.intro @fo_88_2 (And.intro @pl_88_2 (And.intro @fo_88_3 (And.intro @pl_88_3 (And.intro @fo_88_4 (And.intro @pl_88_4 (And.intro @fo_88_5 (And.intro @pl_88_5 (And.intro @fo_88_6 (And.intro @pl_88_6 (And.intro @fo_88_7 (And.intro @pl_88_7 (And.intro @fo_88_8 (And.intro @pl_88_8 (And.intro @fo_88_9 (And.intro @pl_88_9 (And.intro @fo_88_10 (And.intro @pl_88_10 (And.intro @ap_88 (And.intro @pd_88 (And.intro @by_88 (And.intro @sz_89 (And.intro @so_89 (And.intro @ag_89 (And.intro @ze_89 (And.intro @fo_89_0 (And.intro @pl_89_0 (And.intro @fo_89_1 (And.intro @pl_89_1 (And.intro @fo_89_2 (And.intro @pl_89_2 (And.intro @fo_89_3 (And.intro @pl_89_3 (And.intro @fo_89_4 (And.intro @pl_89_4 (And.intro @fo_89_5 (And.intro @pl_89_5 (And.intro @fo_89_6 (And.intro @pl_89_6 (And.intro @fo_89_7 (And.intro @pl_89_7 (And.intro @fo_89_8 (And.intro @pl_89_8 (And.intro @fo_89_9 (And.intro @pl_89_9 (And.intro @fo_89_10 (And.intro @pl_89_10 (And.intro @ap_89 (And.intro @pd_89 (And.intro @by_89 (And.intro @fn_2 (And.intro @fn_3 (And.intro @fn_4 (And.intro @fn_5 (And.intro @fn_6 (And.intro @fn_7 (And.intro @fn_8 (And.intro @fn_9 (And.intro @fn_10 (And.intro @fn_11 (And.intro @fn_12 (And.intro @fn_13 (And.intro @fn_14 (And.intro @fn_15 (And.intro @fn_16 (And.intro @fn_17 (And.intro @fn_18 (And.intro @fn_19 (And.intro @fn_20 (And.intro @fn_21 (And.intro @fn_22 (And.intro @fn_23 (And.intro @fn_24 (And.intro @fn_25 (And.intro @fn_26 (And.intro @fn_27 (And.intro @fn_28 (And.intro @fn_29 (And.intro @fn_30 (And.intro @fn_31 (And.intro @fn_32 (And.intro @fn_33 (And.intro @fn_34 (And.intro @fn_35 (And.intro @fn_37 (And.intro @fn_38 (And.intro @C_P (And.intro @C_norms (And.intro @C_heap (And.intro @C_draws (And.intro @C_prim (@C_shp)))))))))))))))))))))))))))))))))))))))))))))))))))))))))))))))))))))))))))))))))))))))))))))))))))))))))))))))))))))))))))))))))))))))))))))))))))))))))))))))))))))))))))))))))))))))))))))))))))))))))))))))))))))))))))))))))))))))))))))))))))))))))))))))))))))))))))))))))))))))))))))))))))))))))))))))))))))))))))))))))))))))))))))))))))))))))))))))))))))))))))))))))))))))))))))))))))))))))))))))))))))))))))))))))))))))))))))))))))))))))))))))))))))))))))))))))))))))))))))))))))))))))))))))))))))))))))))))))))))))))))))))))))))))))) := And.intro @sz_2 (And.intro @so_2 (And.intro @ag_2 (And.intro @sh_2 (And.intro @ze_2 (And.intro @un_2 (And.intro @ap_2 (And.intro @by_2 (And.intro @sz_3 (And.intro @so_3 (And.intro @ag_3 (And.intro @sh_3 (And.intro @ze_3 (And.intro @un_3 (And.intro @ap_3 (And.intro @by_3 (And.intro @sz_4 (And.intro @so_4 (And.intro @ag_4 (And.intro @sh_4 (And.intro @ze_4 (And.intro @un_4 (And.intro @ap_4 (And.intro @by_4 (And.intro @sz_5 (And.intro @so_5 (And.intro @ag_5 (And.intro @sh_5 (And.intro @ze_5 (And.intro @un_5 (And.intro @ap_5 (And.intro @by_5 (And.intro @sz_6 (And.intro @so_6 (And.intro @ag_6 (And.intro @sh_6 (And.intro @ze_6 (And.intro @un_6 (And.intro @ap_6 (And.intro @by_6 (And.intro @sz_7 (And.intro @so_7 (And.intro @ag_7 (And.intro @sh_7 (And.intro @ze_7 (And.intro @fo_7_0 (And.intro @pl_7_0 (And.intro @fo_7_1 (And.intro @pl_7_1 (And.intro @fo_7_2 (And.intro @pl_7_2 (And.intro @fo_7_3 (And.intro @pl_7_3 (And.intro @ap_7 (And.intro @pd_7 (And.intro @by_7 (And.intro @sz_8 (And.intro @so_8 (And.intro @ag_8 (And.intro @sh_8 (And.intro @ze_8 (And.intro @fo_8_0 (And.intro @pl_8_0 (And.intro @fo_8_1 (And.intro @pl_8_1 (And.intro @fo_8_2 (And.intro @pl_8_2 (And.intro @fo_8_3 (And.intro @pl_8_3 (And.intro @ap_8 (And.intro @pd_8 (And.intro @by_8 (And.intro @sz_9 (And.intro @so_9 (And.intro @ag_9 (And.intro @sh_9 (And.intro @ze_9 (And.intro @un_9 (And.intro @ap_9 (And.intro @by_9 (And.intro @sz_10 (And.intro @so_10 (And.intro @ag_10 (And.intro @sh_10 (And.intro @ze_10 (And.intro @un_10 (And.intro @ap_10 (And.intro @by_10 (And.intro @sz_11 (And.intro @so_11 (And.intro @ag_11 (And.intro @sh_11 (And.intro @ze_11 (And.intro @un_11 (And.intro @ap_11 (And.intro @by_11 (And.intro @sz_12 (And.intro @so_12 (And.intro @ag_12 (And.intro @sh_12 (And.intro @ze_12 (And.intro @un_12 (And.intro @ap_12 (And.intro @by_12 (And.intro @sz_13 (And.intro @so_13 (And.intro @ag_13 (And.intro @sh_13 (And.intro @ze_13 (And.intro @fo_13_0 (And.intro @pl_13_0 (And.intro @fo_13_1 (And.intro @pl_13_1 (And.intro @ap_13 (And.intro @pd_13 (And.intro @by_13 (And.intro @sz_14 (And.intro @so_14 (And.intro @ag_14 (And.intro @sh_14 (And.intro @ze_14 (And.intro @fo_14_0 (And.intro @pl_14_0 (And.intro @fo_14_1 (And.intro @pl_14_1 (And.intro @ap_14 (And.intro @pd_14 (And.intro @by_14 (And.intro @sz_15 (And.intro @so_15 (And.intro @ag_15 (And.intro @ze_15 (And.intro @pt_15 (And.intro @ap_15 (And.intro @by_15 (And.intro @sz_16 (And.intro @so_16 (And.intro @ag_16 (And.intro @ze_16 (And.intro @pt_16 (And.intro @ap_16 (And.intro @by_16 (And.intro @sz_17 (And.intro @so_17 (And.intro @ag_17 (And.intro @ze_17 (And.intro @pt_17 (And.intro @ap_17 (And.intro @by_17 (And.intro @sz_18 (And.intro @so_18 (And.intro @ag_18 (And.intro @ze_18 (And.intro @fo_18_0 (And.intro @pl_18_0 (And.intro @ap_18 (And.intro @pd_18 (And.intro @by_18 (And.intro @sz_19 (And.intro @so_19 (And.intro @ag_19 (And.intro @ze_19 (And.intro @fo_19_0 (And.intro @pl_19_0 (And.intro @ap_19 (And.intro @pd_19 (And.intro @by_19 (And.intro @sz_21 (And.intro @so_21 (And.intro @ag_21 (And.intro @sh_21 (And.intro @ze_21 (And.intro @un_21 (And.intro @ap_21 (And.intro @by_21 (And.intro @sz_22 (And.intro @so_22 (And.intro @ag_22 (And.intro @sh_22 (And.intro @ze_22 (And.intro @el_22 (And.intro @un_22 (And.intro @ap_22 (And.intro @by_22 (And.intro @sz_23 (And.intro @so_23 (And.intro @ag_23 (And.intro @sh_23 (And.intro @ze_23 (And.intro @el_23 (And.intro @un_23 (And.intro @ap_23 (And.intro @by_23 (And.intro @sz_24 (And.intro @so_24 (And.intro @ag_24 (And.intro @sh_24 (And.intro @ze_24 (And.intro @el_24 (And.intro @un_24 (And.intro @ap_24 (And.intro @by_24 (And.intro @sz_27 (And.intro @so_27 (And.intro @ag_27 (And.intro @sh_27 (And.intro @ze_27 (And.intro @un_27 (And.intro @ap_27 (And.intro @by_27 (And.intro @sz_30 (And.intro @so_30 (And.intro @ag_30 (And.intro @sh_30 (And.intro @ze_30 (And.intro @el_30 (And.intro @un_30 (And.intro @ap_30 (And.intro @by_30 (And.intro @sz_42 (And.intro @so_42 (And.intro @ag_42 (And.intro @sh_42 (And.intro @ze_42 (And.intro @fs_42 (And.intro @fo_42_0 (And.intro @pl_42_0 (And.intro @fo_42_1 (And.intro @pl_42_1 (And.intro @ap_42 (And.intro @pd_42 (And.intro @by_42 (And.intro @sz_43 (And.intro @so_43 (And.intro @ag_43 (And.intro @sh_43 (And.intro @ze_43 (And.intro @fs_43 (And.intro @fo_43_0 (And.intro @pl_43_0 (And.intro @fo_43_1 (And.intro @pl_43_1 (And.intro @ap_43 (And.intro @pd_43 (And.intro @by_43 (And.intro @sz_44 (And.intro @so_44 (And.intro @ag_44 (And.intro @sh_44 (And.intro @ze_44 (And.intro @ar_44 (And.intro @pl_44 (And.intro @ap_44 (And.intro @pd_44 (And.intro @by_44 (And.intro @sz_46 (And.intro @so_46 (And.intro @ag_46 (And.intro @ze_46 (And.intro @pt_46 (And.intro @ap_46 (And.intro @by_46 (And.intro @sz_47 (And.intro @so_47 (And.intro @ag_47 (And.intro @sh_47 (And.intro @ze_47 (And.intro @el_47 (And.intro @un_47 (And.intro @ap_47 (And.intro @by_47 (And.intro @sz_48 (And.intro @so_48 (And.intro @ag_48 (And.intro @ze_48 (And.intro @fo_48_0 (And.intro @pl_48_0 (And.intro @fo_48_1 (And.intro @pl_48_1 (And.intro @ap_48 (And.intro @pd_48 (And.intro @by_48 (And.intro @sz_49 (And.intro @so_49 (And.intro @ag_49 (And.intro @ze_49 (And.intro @fo_49_0 (And.intro @pl_49_0 (And.intro @fo_49_1 (And.intro @pl_49_1 (And.intro @ap_49 (And.intro @pd_49 (And.intro @by_49 (And.intro @sz_58 (And.intro @so_58 (And.intro @ag_58 (And.intro @ze_58 (And.intro @pt_58 (And.intro @ap_58 (And.intro @by_58 (And.intro @sz_59 (And.intro @so_59 (And.intro @ag_59 (And.intro @sh_59 (And.intro @ze_59 (And.intro @fs_59 (And.intro @fo_59_0 (And.intro @pl_59_0 (And.intro @fo_59_1 (And.intro @pl_59_1 (And.intro @ap_59 (And.intro @pd_59 (And.intro @by_59 (And.intro @sz_60 (And.intro @so_60 (And.intro @ag_60 (And.intro @sh_60 (And.intro @ze_60 (And.intro @fs_60 (And.intro @fo_60_0 (And.intro @pl_60_0 (And.intro @fo_60_1 (And.intro @pl_60_1 (And.intro @ap_60 (And.intro @pd_60 (And.intro @by_60 (And.intro @sz_68 (And.intro @so_68 (And.intro @ag_68 (And.intro @ze_68 (And.intro @pt_68 (And.intro @ap_68 (And.intro @by_68 (And.intro @sz_73 (And.intro @so_73 (And.intro @ag_73 (And.intro @sh_73 (And.intro @ze_73 (And.intro @un_73 (And.intro @ap_73 (And.intro @by_73 (And.intro @sz_77 (And.intro @so_77 (And.intro @ag_77 (And.intro @ze_77 (And.intro @fo_77_0 (And.intro @pl_77_0 (And.intro @fo_77_1 (And.intro @pl_77_1 (And.intro @fo_77_2 (And.intro @pl_77_2 (And.intro @fo_77_3 (And.intro @pl_77_3 (And.intro @ap_77 (And.intro @pd_77 (And.intro @by_77 (And.intro @sz_78 (And.intro @so_78 (And.intro @ag_78 (And.intro @ze_78 (And.intro @fo_78_0 (And.intro @pl_78_0 (And.intro @fo_78_1 (And.intro @pl_78_1 (And.intro @fo_78_2 (And.intro @pl_78_2 (And.intro @fo_78_3 (And.intro @pl_78_3 (And.intro @ap_78 (And.intro @pd_78 (And.intro @by_78 (And.intro @sz_79 (And.intro @so_79 (And.intro @ag_79 (And.intro @sh_79 (And.intro @ze_79 (And.intro @ar_79 (And.intro @pl_79 (And.intro @pd_79 (And.intro @by_79 (And.intro @sz_80 (And.intro @so_80 (And.intro @ag_80 (And.intro @sh_80 (And.intro @ze_80 (And.intro @fo_80_0 (And.intro @pl_80_0 (And.intro @pd_80 (And.intro @by_80 (And.intro @sz_81 (And.intro @so_81 (And.intro @ag_81 (And.intro @sh_81 (And.intro @ze_81 (And.intro @fo_81_0 (And.intro @pl_81_0 (And.intro @pd_81 (And.intro @by_81 (And.intro @sz_82 (And.intro @so_82 (And.intro @ag_82 (And.intro @sh_82 (And.intro @ze_82 (And.intro @un_82 (And.intro @ap_82 (And.intro @by_82 (And.intro @sz_83 (And.intro @so_83 (And.intro @ag_83 (And.intro @sh_83 (And.intro @ze_83 (And.intro @un_83 (And.intro @ap_83 (And.intro @by_83 (And.intro @sz_84 (And.intro @so_84 (And.intro @ag_84 (And.intro @sh_84 (And.intro @ze_84 (And.intro @un_84 (And.intro @ap_84 (And.intro @by_84 (And.intro @sz_86 (And.intro @so_86 (And.intro @ag_86 (And.intro @sh_86 (And.intro @ze_86 (And.intro @un_86 (And.intro @ap_86 (And.intro @by_86 (And.intro @sz_87 (And.intro @so_87 (And.intro @ag_87 (And.intro @sh_87 (And.intro @ze_87 (And.intro @un_87 (And.intro @ap_87 (And.intro @by_87 (And.intro @sz_88 (And.intro @so_88 (And.intro @ag_88 (And.intro @ze_88 (And.intro @fo_88_0 (And.intro @pl_88_0 (And.intro @fo_88_1 (And.intro @pl_88_1 (And.intro @fo_88_2 (And.intro @pl_88_2 (And.intro @fo_88_3 (And.intro @pl_88_3 (And.intro @fo_88_4 (And.intro @pl_88_4 (And.intro @fo_88_5 (And.intro @pl_88_5 (And.intro @fo_88_6 (And.intro @pl_88_6 (And.intro @fo_88_7 (And.intro @pl_88_7 (And.intro @fo_88_8 (And.intro @pl_88_8 (And.intro @fo_88_9 (And.intro @pl_88_9 (And.intro @fo_88_10 (And.intro @pl_88_10 (And.intro @ap_88 (And.intro @pd_88 (And.intro @by_88 (And.intro @sz_89 (And.intro @so_89 (And.intro @ag_89 (And.intro @ze_89 (And.intro @fo_89_0 (And.intro @pl_89_0 (And.intro @fo_89_1 (And.intro @pl_89_1 (And.intro @fo_89_2 (And.intro @pl_89_2 (And.intro @fo_89_3 (And.intro @pl_89_3 (And.intro @fo_89_4 (And.intro @pl_89_4 (And.intro @fo_89_5 (And.intro @pl_89_5 (And.intro @fo_89_6 (And.intro @pl_89_6 (And.intro @fo_89_7 (And.intro @pl_89_7 (And.intro @fo_89_8 (And.intro @pl_89_8 (And.intro @fo_89_9 (And.intro @pl_89_9 (And.intro @fo_89_10 (And.intro @pl_89_10 (And.intro @ap_89 (And.intro @pd_89 (And.intro @by_89 (And.intro @fn_2 (And.intro @fn_3 (And.intro @fn_4 (And.intro @fn_5 (And.intro @fn_6 (And.intro @fn_7 (And.intro @fn_8 (And.intro @fn_9 (And.intro @fn_10 (And.intro @fn_11 (And.intro @fn_12 (And.intro @fn_13 (And.intro @fn_14 (And.intro @fn_15 (And.intro @fn_16 (And.intro @fn_17 (And.intro @fn_18 (And.intro @fn_19 (And.intro @fn_20 (And.intro @fn_21 (And.intro @fn_22 (And.intro @fn_23 (And.intro @fn_24 (And.intro @fn_25 (And.intro @fn_26 (And.intro @fn_27 (And.intro @fn_28 (And.intro @fn_29 (And.intro @fn_30 (And.intro @fn_31 (And.intro @fn_32 (And.intro @fn_33 (And.intro @fn_34 (And.intro @fn_35 (And.intro @fn_37 (And.intro @fn_38 (And.intro @C_P (And.intro @C_norms (And.intro @C_heap (And.intro @C_draws (And.intro @C_prim (@C_shp)))))))))))))))))))))))))))))))))))))))))))))))))))))))))))))))))))))))))))))))))))))))))))))))))))))))))))))))))))))))))))))))))))))))))))))))))))))))))))))))))))))))))))))))))))))))))))))))))))))))))))))))))))))))))))))))))))))))))))))))))))))))))))))))))))))))))))))))))))))))))))))))))))))))))))))))))))))))))))))))))))))))))))))))))))))))))))))))))))))))))))))))))))))))))))))))))))))))))))))))))))))))))))))))))))))))))))))))))))))))))))))))))))))))))))))))))))))))))))))))))))))))))))))))))))))))))))))))))))))))))))))))))))))))))
end Go.Ai
