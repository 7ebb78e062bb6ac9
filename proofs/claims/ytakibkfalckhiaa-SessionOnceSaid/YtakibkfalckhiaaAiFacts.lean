/- The configuration of the abstract machine for this seat, and closed facts on its types. Written by ai_gen.py. -/
import Derived.Test.YtakibkfalckhiaaProg
import Derived.Test.YtakibkfalckhiaaAiEv
import Derived.Test.YtakibkfalckhiaaAiVar
import Derived.Test.YtakibkfalckhiaaAiPrim
namespace Go.Ai
open Go.Proofs

def normsOf : FuncId → Nat → Norm
  | 3, 6 => ⟨[1, 2, 3, 7, 8, 9], [1, 3, 6, 7, 8], [], 0, []⟩
  | 3, 17 => ⟨[1, 7, 107, 108, 109], [6, 7], [], 0, []⟩
  | 4, 5 => ⟨[0, 3, 4, 5, 6], [2, 3, 4, 5], [], 0, []⟩
  | 4, 14 => ⟨[3, 4, 5, 11], [2, 3, 4, 5], [], 0, []⟩
  | 4, 20 => ⟨[3, 4, 5, 12, 13], [2, 3, 4, 12], [], 0, []⟩
  | 5, 4 => ⟨[0, 3, 4, 5], [0, 2, 3, 4], [], 0, []⟩
  | 6, 7 => ⟨[0, 5, 6, 7, 8, 9, 10], [4, 5, 8, 9], [], 0, []⟩
  | 7, 6 => ⟨[5, 6, 7, 8, 9], [4, 5, 6, 7, 8], [], 0, []⟩
  | 7, 17 => ⟨[5, 6, 7, 16, 19], [4, 5, 6, 7, 16], [], 0, []⟩
  | 8, 4 => ⟨[1, 2, 19, 20, 21], [0, 1], [], 0, []⟩
  | 11, 15 => ⟨[2, 4, 52, 53, 54], [2, 4, 5, 6], [], 0, []⟩
  | 12, 11 => ⟨[2, 4, 8, 9], [2, 4, 5, 6, 8, 9], [], 0, []⟩
  | 12, 14 => ⟨[2, 4, 8, 9, 10], [4, 5, 6, 9], [], 0, []⟩
  | 13, 4 => ⟨[2, 3, 5], [4], [], 0, []⟩
  | 16, 5 => ⟨[1, 3, 28, 29, 30], [2], [], 0, []⟩
  | 17, 5 => ⟨[1, 3, 4], [2], [], 0, []⟩
  | 19, 3 => ⟨[0, 1, 6, 7, 8], [0, 1, 4, 5, 6, 7], [], 0, []⟩
  | 22, 2 => ⟨[0, 1, 5], [4], [], 0, []⟩
  | 30, 1 => ⟨[0, 2, 3], [], [], 0, []⟩
  | _, _ => ⟨[], [], [], 0, []⟩
def cutsOf : FuncId → Nat → Option Norm
  | _, _ => none
def heapOf : FuncId → Bool
  | 20 => true
  | 26 => true
  | _ => false
def quietOf : FuncId → Bool
  | _ => false
def opnOf : FuncId → Bool
  | 20 => true
  | _ => false
def shutOf : FuncId → Option (TypeId × Nat)
  | 20 => some (3, 1)
  | 23 => some (3, 1)
  | _ => none
def drawsOf : FuncId → Nat → Option (List Nat)
  | 3, 8 => some [0, 1, 2, 3, 4, 5, 6, 7, 8, 9]
  | 3, 24 => some [0, 1, 2, 3, 4, 5, 6, 7, 8, 9, 10, 11, 12, 13, 14, 15, 16, 17, 18, 19, 20, 21, 22, 23, 24, 25, 26, 27, 28, 29, 30, 31, 33, 32, 34, 35, 36]
  | 5, 9 => some [0, 1, 2, 3, 4, 5, 6, 7, 8, 9, 10, 11, 12, 13, 14, 15]
  | 6, 9 => some [0, 1, 2, 3, 4, 5, 6, 7, 8, 9, 10, 11, 12]
  | 6, 10 => some [0, 1, 2, 3, 4, 5, 6, 7, 8, 9, 10, 11, 12, 13, 14, 15, 16]
  | 13, 6 => some [0, 1, 2, 3, 4, 5, 6, 7, 8, 9, 10]
  | 17, 7 => some [0, 1, 2, 3, 4, 5, 6, 7, 8, 9, 10, 11, 12, 13, 14, 15, 16, 17, 18, 19, 20, 21, 22, 23, 24, 25]
  | 20, 11 => some [0, 1, 2, 3, 4, 5, 6, 7, 8]
  | 20, 15 => some [0, 1, 2, 3, 4, 5, 6, 7, 8]
  | 30, 3 => some [0, 1, 2, 3, 4, 5, 6, 7, 8, 9, 10, 11, 12, 13, 14, 15]
  | _, _ => none
def drawmOf : FuncId → Nat → Option OT
  | 15, 8 => some (.step 0 (.step 1 (.fork (.step 2 (.step 3 (.step 4 (.step 5 .done)))) (.step 3 (.step 2 (.step 4 (.step 5 .done)))))))
  | _, _ => none
def extOf : FuncId → Option ExtA
  | 26 => some extOverlaps
  | _ => none
def primOf : FuncId → Option Prim
  | _ => none
def shpOf : FuncId → List (List (Option Nat))
  | 3 => [[none, none, some 1], [none], [some 1]]
  | 4 => [[some 1]]
  | 5 => [[some 1]]
  | 6 => [[some 1], [none]]
  | 11 => [[none, none, some 1], [none]]
  | 12 => [[none, none, some 1], [none]]
  | 13 => [[none, none, some 1], [none, none, some 1]]
  | 14 => [[none, none, some 1]]
  | 15 => [[none, none, some 1]]
  | 16 => [[none, none, some 1]]
  | 17 => [[none, none, some 1]]
  | 18 => [[none, none, some 1]]
  | 19 => [[some 1], [none]]
  | 20 => [[some 1], [none], [some 1]]
  | 21 => [[none, none, some 1]]
  | 22 => [[some 1], [none]]
  | 23 => [[some 1]]
  | 26 => [[some 1], [some 1]]
  | 27 => [[some 1], [none]]
  | 29 => [[some 1], [none]]
  | 30 => [[some 1]]
  | _ => []
def iceOf : FuncId → Option (List (List (Option Nat)))
  | 9 => some [[none, none, some 1]]
  | 11 => some [[none, none, some 1], [none], [none]]
  | 12 => some [[none, none, some 1], [none], [none]]
  | 14 => some [[none, none, some 1], [none], [none]]
  | 15 => some [[none, none, some 1], [none], [none]]
  | _ => none
noncomputable def C : Cfg := { P := Try.prog, norms := normsOf, cuts := cutsOf, heap := heapOf, draws := drawsOf, prim := primOf, quiet := quietOf, shp := shpOf, drawm := drawmOf, opn := opnOf, shut := shutOf, ext := extOf, ice := iceOf }
theorem C_P : C.P = Try.prog := rfl
theorem C_norms (f n : Nat) : C.norms f n = normsOf f n := rfl
theorem C_heap (f : Nat) : C.heap f = heapOf f := rfl
theorem C_cuts (f n : Nat) : C.cuts f n = cutsOf f n := rfl
theorem C_quiet (f : Nat) : C.quiet f = quietOf f := rfl
theorem C_draws (f n : Nat) : C.draws f n = drawsOf f n := rfl
theorem C_prim (f : Nat) : C.prim f = primOf f := rfl
theorem C_shp (f : Nat) : C.shp f = shpOf f := rfl
theorem C_drawm (f n : Nat) : C.drawm f n = drawmOf f n := rfl
theorem C_ice (f : Nat) : C.ice f = iceOf f := rfl
theorem C_ext (f : Nat) : C.ext f = extOf f := rfl
theorem C_opn (f : Nat) : C.opn f = opnOf f := rfl
theorem C_shut (f : Nat) : C.shut f = shutOf f := rfl
theorem sz_2 : szOf Try.prog 2 = 1 := by kernel_rfl
theorem so_2 : szO Try.prog 2 = some 1 := by kernel_rfl
theorem ag_2 : isAg Try.prog 2 = some false := by kernel_rfl
theorem sh_2 : shapes Try.prog 10 2 = [.int .i64] := by kernel_rfl
theorem ze_2 : zeroC Try.prog 2 = some [.v (.int .i64 0)] := by kernel_rfl
theorem un_2 : Try.prog.underlying 2 = some (.int .i64) := by kernel_rfl
theorem ap_2 : appOk Try.prog 2 = true := by kernel_rfl
theorem by_2 : byOf Try.prog 2 = 8 := by kernel_rfl
theorem sz_3 : szOf Try.prog 3 = 1 := by kernel_rfl
theorem so_3 : szO Try.prog 3 = some 1 := by kernel_rfl
theorem ag_3 : isAg Try.prog 3 = some false := by kernel_rfl
theorem sh_3 : shapes Try.prog 10 3 = [.int .i64] := by kernel_rfl
theorem ze_3 : zeroC Try.prog 3 = some [.v (.int .i64 0)] := by kernel_rfl
theorem un_3 : Try.prog.underlying 3 = some (.int .i64) := by kernel_rfl
theorem ap_3 : appOk Try.prog 3 = true := by kernel_rfl
theorem by_3 : byOf Try.prog 3 = 8 := by kernel_rfl
theorem sz_4 : szOf Try.prog 4 = 1 := by kernel_rfl
theorem so_4 : szO Try.prog 4 = some 1 := by kernel_rfl
theorem ag_4 : isAg Try.prog 4 = some false := by kernel_rfl
theorem sh_4 : shapes Try.prog 10 4 = [.bool] := by kernel_rfl
theorem ze_4 : zeroC Try.prog 4 = some [.v (.bool false)] := by kernel_rfl
theorem un_4 : Try.prog.underlying 4 = some .bool := by kernel_rfl
theorem ap_4 : appOk Try.prog 4 = true := by kernel_rfl
theorem by_4 : byOf Try.prog 4 = 1 := by kernel_rfl
theorem sz_5 : szOf Try.prog 5 = 1 := by kernel_rfl
theorem so_5 : szO Try.prog 5 = some 1 := by kernel_rfl
theorem ag_5 : isAg Try.prog 5 = some false := by kernel_rfl
theorem sh_5 : shapes Try.prog 10 5 = [.int .u8] := by kernel_rfl
theorem ze_5 : zeroC Try.prog 5 = some [.v (.int .u8 0)] := by kernel_rfl
theorem un_5 : Try.prog.underlying 5 = some (.int .u8) := by kernel_rfl
theorem ap_5 : appOk Try.prog 5 = true := by kernel_rfl
theorem by_5 : byOf Try.prog 5 = 1 := by kernel_rfl
theorem sz_6 : szOf Try.prog 6 = 1 := by kernel_rfl
theorem so_6 : szO Try.prog 6 = some 1 := by kernel_rfl
theorem ag_6 : isAg Try.prog 6 = some false := by kernel_rfl
theorem sh_6 : shapes Try.prog 10 6 = [.int .u8] := by kernel_rfl
theorem ze_6 : zeroC Try.prog 6 = some [.v (.int .u8 0)] := by kernel_rfl
theorem un_6 : Try.prog.underlying 6 = some (.int .u8) := by kernel_rfl
theorem ap_6 : appOk Try.prog 6 = true := by kernel_rfl
theorem by_6 : byOf Try.prog 6 = 1 := by kernel_rfl
theorem sz_7 : szOf Try.prog 7 = 4 := by kernel_rfl
theorem so_7 : szO Try.prog 7 = some 4 := by kernel_rfl
theorem ag_7 : isAg Try.prog 7 = some true := by kernel_rfl
theorem sh_7 : shapes Try.prog 10 7 = [.int .i64, .int .i64, .bool, .int .u8] := by kernel_rfl
theorem ze_7 : zeroC Try.prog 7 = some [.v (.int .i64 0), .v (.int .i64 0), .v (.bool false), .v (.int .u8 0)] := by kernel_rfl
theorem fo_7_0 : fieldOf Try.prog 7 0 = some (0, 2) := by kernel_rfl
theorem pl_7_0 : placesA Try.prog 7 0 = some (0, 1) := by kernel_rfl
theorem fo_7_1 : fieldOf Try.prog 7 1 = some (1, 3) := by kernel_rfl
theorem pl_7_1 : placesA Try.prog 7 1 = some (1, 1) := by kernel_rfl
theorem fo_7_2 : fieldOf Try.prog 7 2 = some (2, 4) := by kernel_rfl
theorem pl_7_2 : placesA Try.prog 7 2 = some (2, 1) := by kernel_rfl
theorem fo_7_3 : fieldOf Try.prog 7 3 = some (3, 6) := by kernel_rfl
theorem pl_7_3 : placesA Try.prog 7 3 = some (3, 1) := by kernel_rfl
theorem ap_7 : appOk Try.prog 7 = true := by kernel_rfl
theorem pd_7 : placed Try.prog 7 = true := by kernel_rfl
theorem by_7 : byOf Try.prog 7 = 24 := by kernel_rfl
theorem sz_8 : szOf Try.prog 8 = 4 := by kernel_rfl
theorem so_8 : szO Try.prog 8 = some 4 := by kernel_rfl
theorem ag_8 : isAg Try.prog 8 = some true := by kernel_rfl
theorem sh_8 : shapes Try.prog 10 8 = [.int .i64, .int .i64, .bool, .int .u8] := by kernel_rfl
theorem ze_8 : zeroC Try.prog 8 = some [.v (.int .i64 0), .v (.int .i64 0), .v (.bool false), .v (.int .u8 0)] := by kernel_rfl
theorem fo_8_0 : fieldOf Try.prog 8 0 = some (0, 2) := by kernel_rfl
theorem pl_8_0 : placesA Try.prog 8 0 = some (0, 1) := by kernel_rfl
theorem fo_8_1 : fieldOf Try.prog 8 1 = some (1, 3) := by kernel_rfl
theorem pl_8_1 : placesA Try.prog 8 1 = some (1, 1) := by kernel_rfl
theorem fo_8_2 : fieldOf Try.prog 8 2 = some (2, 4) := by kernel_rfl
theorem pl_8_2 : placesA Try.prog 8 2 = some (2, 1) := by kernel_rfl
theorem fo_8_3 : fieldOf Try.prog 8 3 = some (3, 6) := by kernel_rfl
theorem pl_8_3 : placesA Try.prog 8 3 = some (3, 1) := by kernel_rfl
theorem ap_8 : appOk Try.prog 8 = true := by kernel_rfl
theorem pd_8 : placed Try.prog 8 = true := by kernel_rfl
theorem by_8 : byOf Try.prog 8 = 24 := by kernel_rfl
theorem sz_9 : szOf Try.prog 9 = 1 := by kernel_rfl
theorem so_9 : szO Try.prog 9 = some 1 := by kernel_rfl
theorem ag_9 : isAg Try.prog 9 = some false := by kernel_rfl
theorem sh_9 : shapes Try.prog 10 9 = [.str] := by kernel_rfl
theorem ze_9 : zeroC Try.prog 9 = some [.v (.string ⟨#[]⟩)] := by kernel_rfl
theorem un_9 : Try.prog.underlying 9 = some .string := by kernel_rfl
theorem ap_9 : appOk Try.prog 9 = true := by kernel_rfl
theorem by_9 : byOf Try.prog 9 = 16 := by kernel_rfl
theorem sz_10 : szOf Try.prog 10 = 1 := by kernel_rfl
theorem so_10 : szO Try.prog 10 = some 1 := by kernel_rfl
theorem ag_10 : isAg Try.prog 10 = some false := by kernel_rfl
theorem sh_10 : shapes Try.prog 10 10 = [.str] := by kernel_rfl
theorem ze_10 : zeroC Try.prog 10 = some [.v (.string ⟨#[]⟩)] := by kernel_rfl
theorem un_10 : Try.prog.underlying 10 = some .string := by kernel_rfl
theorem ap_10 : appOk Try.prog 10 = true := by kernel_rfl
theorem by_10 : byOf Try.prog 10 = 16 := by kernel_rfl
theorem sz_11 : szOf Try.prog 11 = 1 := by kernel_rfl
theorem so_11 : szO Try.prog 11 = some 1 := by kernel_rfl
theorem ag_11 : isAg Try.prog 11 = some false := by kernel_rfl
theorem sh_11 : shapes Try.prog 10 11 = [.str] := by kernel_rfl
theorem ze_11 : zeroC Try.prog 11 = some [.v (.string ⟨#[]⟩)] := by kernel_rfl
theorem un_11 : Try.prog.underlying 11 = some .string := by kernel_rfl
theorem ap_11 : appOk Try.prog 11 = true := by kernel_rfl
theorem by_11 : byOf Try.prog 11 = 16 := by kernel_rfl
theorem sz_12 : szOf Try.prog 12 = 1 := by kernel_rfl
theorem so_12 : szO Try.prog 12 = some 1 := by kernel_rfl
theorem ag_12 : isAg Try.prog 12 = some false := by kernel_rfl
theorem sh_12 : shapes Try.prog 10 12 = [.int .u64] := by kernel_rfl
theorem ze_12 : zeroC Try.prog 12 = some [.v (.int .u64 0)] := by kernel_rfl
theorem un_12 : Try.prog.underlying 12 = some (.int .u64) := by kernel_rfl
theorem ap_12 : appOk Try.prog 12 = true := by kernel_rfl
theorem by_12 : byOf Try.prog 12 = 8 := by kernel_rfl
theorem sz_13 : szOf Try.prog 13 = 2 := by kernel_rfl
theorem so_13 : szO Try.prog 13 = some 2 := by kernel_rfl
theorem ag_13 : isAg Try.prog 13 = some true := by kernel_rfl
theorem sh_13 : shapes Try.prog 10 13 = [.str, .int .u64] := by kernel_rfl
theorem ze_13 : zeroC Try.prog 13 = some [.v (.string ⟨#[]⟩), .v (.int .u64 0)] := by kernel_rfl
theorem fo_13_0 : fieldOf Try.prog 13 0 = some (0, 9) := by kernel_rfl
theorem pl_13_0 : placesA Try.prog 13 0 = some (0, 1) := by kernel_rfl
theorem fo_13_1 : fieldOf Try.prog 13 1 = some (1, 12) := by kernel_rfl
theorem pl_13_1 : placesA Try.prog 13 1 = some (1, 1) := by kernel_rfl
theorem ap_13 : appOk Try.prog 13 = true := by kernel_rfl
theorem pd_13 : placed Try.prog 13 = true := by kernel_rfl
theorem by_13 : byOf Try.prog 13 = 24 := by kernel_rfl
theorem sz_14 : szOf Try.prog 14 = 2 := by kernel_rfl
theorem so_14 : szO Try.prog 14 = some 2 := by kernel_rfl
theorem ag_14 : isAg Try.prog 14 = some true := by kernel_rfl
theorem sh_14 : shapes Try.prog 10 14 = [.str, .int .u64] := by kernel_rfl
theorem ze_14 : zeroC Try.prog 14 = some [.v (.string ⟨#[]⟩), .v (.int .u64 0)] := by kernel_rfl
theorem fo_14_0 : fieldOf Try.prog 14 0 = some (0, 9) := by kernel_rfl
theorem pl_14_0 : placesA Try.prog 14 0 = some (0, 1) := by kernel_rfl
theorem fo_14_1 : fieldOf Try.prog 14 1 = some (1, 12) := by kernel_rfl
theorem pl_14_1 : placesA Try.prog 14 1 = some (1, 1) := by kernel_rfl
theorem ap_14 : appOk Try.prog 14 = true := by kernel_rfl
theorem pd_14 : placed Try.prog 14 = true := by kernel_rfl
theorem by_14 : byOf Try.prog 14 = 24 := by kernel_rfl
theorem sz_15 : szOf Try.prog 15 = 1 := by kernel_rfl
theorem so_15 : szO Try.prog 15 = some 1 := by kernel_rfl
theorem ag_15 : isAg Try.prog 15 = some false := by kernel_rfl
theorem ze_15 : zeroC Try.prog 15 = some [.v (.pointer none)] := by kernel_rfl
theorem pt_15 : ptrOf Try.prog 15 = some 53 := by kernel_rfl
theorem ap_15 : appOk Try.prog 15 = true := by kernel_rfl
theorem by_15 : byOf Try.prog 15 = 8 := by kernel_rfl
theorem sz_16 : szOf Try.prog 16 = 1 := by kernel_rfl
theorem so_16 : szO Try.prog 16 = some 1 := by kernel_rfl
theorem ag_16 : isAg Try.prog 16 = some false := by kernel_rfl
theorem ze_16 : zeroC Try.prog 16 = some [.v (.pointer none)] := by kernel_rfl
theorem pt_16 : ptrOf Try.prog 16 = some 56 := by kernel_rfl
theorem ap_16 : appOk Try.prog 16 = true := by kernel_rfl
theorem by_16 : byOf Try.prog 16 = 8 := by kernel_rfl
theorem sz_17 : szOf Try.prog 17 = 1 := by kernel_rfl
theorem so_17 : szO Try.prog 17 = some 1 := by kernel_rfl
theorem ag_17 : isAg Try.prog 17 = some false := by kernel_rfl
theorem ze_17 : zeroC Try.prog 17 = some [.v (.pointer none)] := by kernel_rfl
theorem pt_17 : ptrOf Try.prog 17 = some 66 := by kernel_rfl
theorem ap_17 : appOk Try.prog 17 = true := by kernel_rfl
theorem by_17 : byOf Try.prog 17 = 8 := by kernel_rfl
theorem sz_18 : szOf Try.prog 18 = 1 := by kernel_rfl
theorem so_18 : szO Try.prog 18 = some 1 := by kernel_rfl
theorem ag_18 : isAg Try.prog 18 = some true := by kernel_rfl
theorem ze_18 : zeroC Try.prog 18 = some [.v (.pointer none)] := by kernel_rfl
theorem fo_18_0 : fieldOf Try.prog 18 0 = some (0, 17) := by kernel_rfl
theorem pl_18_0 : placesA Try.prog 18 0 = some (0, 1) := by kernel_rfl
theorem ap_18 : appOk Try.prog 18 = true := by kernel_rfl
theorem pd_18 : placed Try.prog 18 = true := by kernel_rfl
theorem by_18 : byOf Try.prog 18 = 8 := by kernel_rfl
theorem sz_19 : szOf Try.prog 19 = 1 := by kernel_rfl
theorem so_19 : szO Try.prog 19 = some 1 := by kernel_rfl
theorem ag_19 : isAg Try.prog 19 = some true := by kernel_rfl
theorem ze_19 : zeroC Try.prog 19 = some [.v (.pointer none)] := by kernel_rfl
theorem fo_19_0 : fieldOf Try.prog 19 0 = some (0, 17) := by kernel_rfl
theorem pl_19_0 : placesA Try.prog 19 0 = some (0, 1) := by kernel_rfl
theorem ap_19 : appOk Try.prog 19 = true := by kernel_rfl
theorem pd_19 : placed Try.prog 19 = true := by kernel_rfl
theorem by_19 : byOf Try.prog 19 = 8 := by kernel_rfl
theorem sz_21 : szOf Try.prog 21 = 1 := by kernel_rfl
theorem so_21 : szO Try.prog 21 = some 1 := by kernel_rfl
theorem ag_21 : isAg Try.prog 21 = some false := by kernel_rfl
theorem sh_21 : shapes Try.prog 10 21 = [.int .i32] := by kernel_rfl
theorem ze_21 : zeroC Try.prog 21 = some [.v (.int .i32 0)] := by kernel_rfl
theorem un_21 : Try.prog.underlying 21 = some (.int .i32) := by kernel_rfl
theorem ap_21 : appOk Try.prog 21 = true := by kernel_rfl
theorem by_21 : byOf Try.prog 21 = 4 := by kernel_rfl
theorem sz_22 : szOf Try.prog 22 = 1 := by kernel_rfl
theorem so_22 : szO Try.prog 22 = some 1 := by kernel_rfl
theorem ag_22 : isAg Try.prog 22 = some false := by kernel_rfl
theorem sh_22 : shapes Try.prog 10 22 = [.sl 1] := by kernel_rfl
theorem ze_22 : zeroC Try.prog 22 = some [.v (.slice none 0 0)] := by kernel_rfl
theorem el_22 : elemOfS Try.prog 22 = some 3 := by kernel_rfl
theorem un_22 : Try.prog.underlying 22 = some (.slice 3) := by kernel_rfl
theorem ap_22 : appOk Try.prog 22 = true := by kernel_rfl
theorem by_22 : byOf Try.prog 22 = 24 := by kernel_rfl
theorem sz_23 : szOf Try.prog 23 = 3 := by kernel_rfl
theorem so_23 : szO Try.prog 23 = some 3 := by kernel_rfl
theorem ag_23 : isAg Try.prog 23 = some true := by kernel_rfl
theorem sh_23 : shapes Try.prog 10 23 = [.int .i64, .int .i64, .sl 1] := by kernel_rfl
theorem ze_23 : zeroC Try.prog 23 = some [.v (.int .i64 0), .v (.int .i64 0), .v (.slice none 0 0)] := by kernel_rfl
theorem fo_23_0 : fieldOf Try.prog 23 0 = some (0, 3) := by kernel_rfl
theorem pl_23_0 : placesA Try.prog 23 0 = some (0, 1) := by kernel_rfl
theorem fo_23_1 : fieldOf Try.prog 23 1 = some (1, 3) := by kernel_rfl
theorem pl_23_1 : placesA Try.prog 23 1 = some (1, 1) := by kernel_rfl
theorem fo_23_2 : fieldOf Try.prog 23 2 = some (2, 22) := by kernel_rfl
theorem pl_23_2 : placesA Try.prog 23 2 = some (2, 1) := by kernel_rfl
theorem ap_23 : appOk Try.prog 23 = true := by kernel_rfl
theorem pd_23 : placed Try.prog 23 = true := by kernel_rfl
theorem by_23 : byOf Try.prog 23 = 40 := by kernel_rfl
theorem sz_24 : szOf Try.prog 24 = 3 := by kernel_rfl
theorem so_24 : szO Try.prog 24 = some 3 := by kernel_rfl
theorem ag_24 : isAg Try.prog 24 = some true := by kernel_rfl
theorem sh_24 : shapes Try.prog 10 24 = [.int .i64, .int .i64, .sl 1] := by kernel_rfl
theorem ze_24 : zeroC Try.prog 24 = some [.v (.int .i64 0), .v (.int .i64 0), .v (.slice none 0 0)] := by kernel_rfl
theorem fo_24_0 : fieldOf Try.prog 24 0 = some (0, 3) := by kernel_rfl
theorem pl_24_0 : placesA Try.prog 24 0 = some (0, 1) := by kernel_rfl
theorem fo_24_1 : fieldOf Try.prog 24 1 = some (1, 3) := by kernel_rfl
theorem pl_24_1 : placesA Try.prog 24 1 = some (1, 1) := by kernel_rfl
theorem fo_24_2 : fieldOf Try.prog 24 2 = some (2, 22) := by kernel_rfl
theorem pl_24_2 : placesA Try.prog 24 2 = some (2, 1) := by kernel_rfl
theorem ap_24 : appOk Try.prog 24 = true := by kernel_rfl
theorem pd_24 : placed Try.prog 24 = true := by kernel_rfl
theorem by_24 : byOf Try.prog 24 = 40 := by kernel_rfl
theorem sz_28 : szOf Try.prog 28 = 1 := by kernel_rfl
theorem so_28 : szO Try.prog 28 = some 1 := by kernel_rfl
theorem ag_28 : isAg Try.prog 28 = some false := by kernel_rfl
theorem sh_28 : shapes Try.prog 10 28 = [.int .i64] := by kernel_rfl
theorem ze_28 : zeroC Try.prog 28 = some [.v (.int .i64 0)] := by kernel_rfl
theorem un_28 : Try.prog.underlying 28 = some (.int .i64) := by kernel_rfl
theorem ap_28 : appOk Try.prog 28 = true := by kernel_rfl
theorem by_28 : byOf Try.prog 28 = 8 := by kernel_rfl
theorem sz_32 : szOf Try.prog 32 = 1 := by kernel_rfl
theorem so_32 : szO Try.prog 32 = some 1 := by kernel_rfl
theorem ag_32 : isAg Try.prog 32 = some false := by kernel_rfl
theorem sh_32 : shapes Try.prog 10 32 = [.sl 3] := by kernel_rfl
theorem ze_32 : zeroC Try.prog 32 = some [.v (.slice none 0 0)] := by kernel_rfl
theorem el_32 : elemOfS Try.prog 32 = some 24 := by kernel_rfl
theorem un_32 : Try.prog.underlying 32 = some (.slice 24) := by kernel_rfl
theorem ap_32 : appOk Try.prog 32 = true := by kernel_rfl
theorem by_32 : byOf Try.prog 32 = 24 := by kernel_rfl
theorem sz_37 : szOf Try.prog 37 = 1 := by kernel_rfl
theorem so_37 : szO Try.prog 37 = some 1 := by kernel_rfl
theorem ag_37 : isAg Try.prog 37 = some false := by kernel_rfl
theorem sh_37 : shapes Try.prog 10 37 = [.sl 1] := by kernel_rfl
theorem ze_37 : zeroC Try.prog 37 = some [.v (.slice none 0 0)] := by kernel_rfl
theorem el_37 : elemOfS Try.prog 37 = some 4 := by kernel_rfl
theorem un_37 : Try.prog.underlying 37 = some (.slice 4) := by kernel_rfl
theorem ap_37 : appOk Try.prog 37 = true := by kernel_rfl
theorem by_37 : byOf Try.prog 37 = 24 := by kernel_rfl
theorem sz_46 : szOf Try.prog 46 = 1 := by kernel_rfl
theorem so_46 : szO Try.prog 46 = some 1 := by kernel_rfl
theorem ag_46 : isAg Try.prog 46 = some false := by kernel_rfl
theorem sh_46 : shapes Try.prog 10 46 = [.int .u64] := by kernel_rfl
theorem ze_46 : zeroC Try.prog 46 = some [.v (.int .u64 0)] := by kernel_rfl
theorem un_46 : Try.prog.underlying 46 = some (.int .u64) := by kernel_rfl
theorem ap_46 : appOk Try.prog 46 = true := by kernel_rfl
theorem by_46 : byOf Try.prog 46 = 8 := by kernel_rfl
theorem sz_52 : szOf Try.prog 52 = 4 := by kernel_rfl
theorem so_52 : szO Try.prog 52 = some 4 := by kernel_rfl
theorem ag_52 : isAg Try.prog 52 = some true := by kernel_rfl
theorem ze_52 : zeroC Try.prog 52 = some [.v (.pointer none), .v (.pointer none), .v (.pointer none), .v (.string ⟨#[]⟩)] := by kernel_rfl
theorem fo_52_0 : fieldOf Try.prog 52 0 = some (0, 17) := by kernel_rfl
theorem pl_52_0 : placesA Try.prog 52 0 = some (0, 1) := by kernel_rfl
theorem fo_52_1 : fieldOf Try.prog 52 1 = some (1, 17) := by kernel_rfl
theorem pl_52_1 : placesA Try.prog 52 1 = some (1, 1) := by kernel_rfl
theorem fo_52_2 : fieldOf Try.prog 52 2 = some (2, 17) := by kernel_rfl
theorem pl_52_2 : placesA Try.prog 52 2 = some (2, 1) := by kernel_rfl
theorem fo_52_3 : fieldOf Try.prog 52 3 = some (3, 9) := by kernel_rfl
theorem pl_52_3 : placesA Try.prog 52 3 = some (3, 1) := by kernel_rfl
theorem ap_52 : appOk Try.prog 52 = true := by kernel_rfl
theorem pd_52 : placed Try.prog 52 = true := by kernel_rfl
theorem by_52 : byOf Try.prog 52 = 40 := by kernel_rfl
theorem sz_53 : szOf Try.prog 53 = 4 := by kernel_rfl
theorem so_53 : szO Try.prog 53 = some 4 := by kernel_rfl
theorem ag_53 : isAg Try.prog 53 = some true := by kernel_rfl
theorem ze_53 : zeroC Try.prog 53 = some [.v (.pointer none), .v (.pointer none), .v (.pointer none), .v (.string ⟨#[]⟩)] := by kernel_rfl
theorem fo_53_0 : fieldOf Try.prog 53 0 = some (0, 17) := by kernel_rfl
theorem pl_53_0 : placesA Try.prog 53 0 = some (0, 1) := by kernel_rfl
theorem fo_53_1 : fieldOf Try.prog 53 1 = some (1, 17) := by kernel_rfl
theorem pl_53_1 : placesA Try.prog 53 1 = some (1, 1) := by kernel_rfl
theorem fo_53_2 : fieldOf Try.prog 53 2 = some (2, 17) := by kernel_rfl
theorem pl_53_2 : placesA Try.prog 53 2 = some (2, 1) := by kernel_rfl
theorem fo_53_3 : fieldOf Try.prog 53 3 = some (3, 9) := by kernel_rfl
theorem pl_53_3 : placesA Try.prog 53 3 = some (3, 1) := by kernel_rfl
theorem ap_53 : appOk Try.prog 53 = true := by kernel_rfl
theorem pd_53 : placed Try.prog 53 = true := by kernel_rfl
theorem by_53 : byOf Try.prog 53 = 40 := by kernel_rfl
theorem sz_54 : szOf Try.prog 54 = 0 := by kernel_rfl
theorem so_54 : szO Try.prog 54 = some 0 := by kernel_rfl
theorem ag_54 : isAg Try.prog 54 = some true := by kernel_rfl
theorem sh_54 : shapes Try.prog 10 54 = [] := by kernel_rfl
theorem ze_54 : zeroC Try.prog 54 = some [] := by kernel_rfl
theorem ar_54 : arrOf Try.prog 54 = some (0, 16) := by kernel_rfl
theorem pl_54 (i : Nat) : placesA Try.prog 54 i = some (i * szOf Try.prog 16, szOf Try.prog 16) := by kernel_rfl
theorem pd_54 : placed Try.prog 54 = true := by kernel_rfl
theorem by_54 : byOf Try.prog 54 = 0 := by kernel_rfl
theorem sz_55 : szOf Try.prog 55 = 0 := by kernel_rfl
theorem so_55 : szO Try.prog 55 = some 0 := by kernel_rfl
theorem ag_55 : isAg Try.prog 55 = some true := by kernel_rfl
theorem sh_55 : shapes Try.prog 10 55 = [] := by kernel_rfl
theorem ze_55 : zeroC Try.prog 55 = some [] := by kernel_rfl
theorem fo_55_0 : fieldOf Try.prog 55 0 = some (0, 54) := by kernel_rfl
theorem pl_55_0 : placesA Try.prog 55 0 = some (0, 0) := by kernel_rfl
theorem pd_55 : placed Try.prog 55 = true := by kernel_rfl
theorem by_55 : byOf Try.prog 55 = 0 := by kernel_rfl
theorem sz_56 : szOf Try.prog 56 = 0 := by kernel_rfl
theorem so_56 : szO Try.prog 56 = some 0 := by kernel_rfl
theorem ag_56 : isAg Try.prog 56 = some true := by kernel_rfl
theorem sh_56 : shapes Try.prog 10 56 = [] := by kernel_rfl
theorem ze_56 : zeroC Try.prog 56 = some [] := by kernel_rfl
theorem fo_56_0 : fieldOf Try.prog 56 0 = some (0, 54) := by kernel_rfl
theorem pl_56_0 : placesA Try.prog 56 0 = some (0, 0) := by kernel_rfl
theorem pd_56 : placed Try.prog 56 = true := by kernel_rfl
theorem by_56 : byOf Try.prog 56 = 0 := by kernel_rfl
theorem sz_58 : szOf Try.prog 58 = 1 := by kernel_rfl
theorem so_58 : szO Try.prog 58 = some 1 := by kernel_rfl
theorem ag_58 : isAg Try.prog 58 = some false := by kernel_rfl
theorem sh_58 : shapes Try.prog 10 58 = [.int .u32] := by kernel_rfl
theorem ze_58 : zeroC Try.prog 58 = some [.v (.int .u32 0)] := by kernel_rfl
theorem un_58 : Try.prog.underlying 58 = some (.int .u32) := by kernel_rfl
theorem ap_58 : appOk Try.prog 58 = true := by kernel_rfl
theorem by_58 : byOf Try.prog 58 = 4 := by kernel_rfl
theorem sz_59 : szOf Try.prog 59 = 1 := by kernel_rfl
theorem so_59 : szO Try.prog 59 = some 1 := by kernel_rfl
theorem ag_59 : isAg Try.prog 59 = some false := by kernel_rfl
theorem sh_59 : shapes Try.prog 10 59 = [.int .u8] := by kernel_rfl
theorem ze_59 : zeroC Try.prog 59 = some [.v (.int .u8 0)] := by kernel_rfl
theorem un_59 : Try.prog.underlying 59 = some (.int .u8) := by kernel_rfl
theorem ap_59 : appOk Try.prog 59 = true := by kernel_rfl
theorem by_59 : byOf Try.prog 59 = 1 := by kernel_rfl
theorem sz_60 : szOf Try.prog 60 = 1 := by kernel_rfl
theorem so_60 : szO Try.prog 60 = some 1 := by kernel_rfl
theorem ag_60 : isAg Try.prog 60 = some false := by kernel_rfl
theorem sh_60 : shapes Try.prog 10 60 = [.int .u8] := by kernel_rfl
theorem ze_60 : zeroC Try.prog 60 = some [.v (.int .u8 0)] := by kernel_rfl
theorem un_60 : Try.prog.underlying 60 = some (.int .u8) := by kernel_rfl
theorem ap_60 : appOk Try.prog 60 = true := by kernel_rfl
theorem by_60 : byOf Try.prog 60 = 1 := by kernel_rfl
theorem sz_62 : szOf Try.prog 62 = 1 := by kernel_rfl
theorem so_62 : szO Try.prog 62 = some 1 := by kernel_rfl
theorem ag_62 : isAg Try.prog 62 = some false := by kernel_rfl
theorem ze_62 : zeroC Try.prog 62 = some [.v (.pointer none)] := by kernel_rfl
theorem pt_62 : ptrOf Try.prog 62 = some 5 := by kernel_rfl
theorem ap_62 : appOk Try.prog 62 = true := by kernel_rfl
theorem by_62 : byOf Try.prog 62 = 8 := by kernel_rfl
theorem sz_63 : szOf Try.prog 63 = 1 := by kernel_rfl
theorem so_63 : szO Try.prog 63 = some 1 := by kernel_rfl
theorem ag_63 : isAg Try.prog 63 = some false := by kernel_rfl
theorem sh_63 : shapes Try.prog 10 63 = [.int .i32] := by kernel_rfl
theorem ze_63 : zeroC Try.prog 63 = some [.v (.int .i32 0)] := by kernel_rfl
theorem un_63 : Try.prog.underlying 63 = some (.int .i32) := by kernel_rfl
theorem ap_63 : appOk Try.prog 63 = true := by kernel_rfl
theorem by_63 : byOf Try.prog 63 = 4 := by kernel_rfl
theorem sz_64 : szOf Try.prog 64 = 1 := by kernel_rfl
theorem so_64 : szO Try.prog 64 = some 1 := by kernel_rfl
theorem ag_64 : isAg Try.prog 64 = some false := by kernel_rfl
theorem sh_64 : shapes Try.prog 10 64 = [.int .i32] := by kernel_rfl
theorem ze_64 : zeroC Try.prog 64 = some [.v (.int .i32 0)] := by kernel_rfl
theorem un_64 : Try.prog.underlying 64 = some (.int .i32) := by kernel_rfl
theorem ap_64 : appOk Try.prog 64 = true := by kernel_rfl
theorem by_64 : byOf Try.prog 64 = 4 := by kernel_rfl
theorem sz_65 : szOf Try.prog 65 = 11 := by kernel_rfl
theorem so_65 : szO Try.prog 65 = some 11 := by kernel_rfl
theorem ag_65 : isAg Try.prog 65 = some true := by kernel_rfl
theorem ze_65 : zeroC Try.prog 65 = some [.v (.int .u64 0), .v (.int .u64 0), .v (.int .u32 0), .v (.int .u8 0), .v (.int .u8 0), .v (.int .u8 0), .v (.int .u8 0), .v .nilFunc, .v (.pointer none), .v (.int .i32 0), .v (.int .i32 0)] := by kernel_rfl
theorem fo_65_0 : fieldOf Try.prog 65 0 = some (0, 12) := by kernel_rfl
theorem pl_65_0 : placesA Try.prog 65 0 = some (0, 1) := by kernel_rfl
theorem fo_65_1 : fieldOf Try.prog 65 1 = some (1, 12) := by kernel_rfl
theorem pl_65_1 : placesA Try.prog 65 1 = some (1, 1) := by kernel_rfl
theorem fo_65_2 : fieldOf Try.prog 65 2 = some (2, 58) := by kernel_rfl
theorem pl_65_2 : placesA Try.prog 65 2 = some (2, 1) := by kernel_rfl
theorem fo_65_3 : fieldOf Try.prog 65 3 = some (3, 59) := by kernel_rfl
theorem pl_65_3 : placesA Try.prog 65 3 = some (3, 1) := by kernel_rfl
theorem fo_65_4 : fieldOf Try.prog 65 4 = some (4, 5) := by kernel_rfl
theorem pl_65_4 : placesA Try.prog 65 4 = some (4, 1) := by kernel_rfl
theorem fo_65_5 : fieldOf Try.prog 65 5 = some (5, 5) := by kernel_rfl
theorem pl_65_5 : placesA Try.prog 65 5 = some (5, 1) := by kernel_rfl
theorem fo_65_6 : fieldOf Try.prog 65 6 = some (6, 60) := by kernel_rfl
theorem pl_65_6 : placesA Try.prog 65 6 = some (6, 1) := by kernel_rfl
theorem fo_65_7 : fieldOf Try.prog 65 7 = some (7, 61) := by kernel_rfl
theorem pl_65_7 : placesA Try.prog 65 7 = some (7, 1) := by kernel_rfl
theorem fo_65_8 : fieldOf Try.prog 65 8 = some (8, 62) := by kernel_rfl
theorem pl_65_8 : placesA Try.prog 65 8 = some (8, 1) := by kernel_rfl
theorem fo_65_9 : fieldOf Try.prog 65 9 = some (9, 63) := by kernel_rfl
theorem pl_65_9 : placesA Try.prog 65 9 = some (9, 1) := by kernel_rfl
theorem fo_65_10 : fieldOf Try.prog 65 10 = some (10, 64) := by kernel_rfl
theorem pl_65_10 : placesA Try.prog 65 10 = some (10, 1) := by kernel_rfl
theorem ap_65 : appOk Try.prog 65 = true := by kernel_rfl
theorem pd_65 : placed Try.prog 65 = true := by kernel_rfl
theorem by_65 : byOf Try.prog 65 = 48 := by kernel_rfl
theorem sz_66 : szOf Try.prog 66 = 11 := by kernel_rfl
theorem so_66 : szO Try.prog 66 = some 11 := by kernel_rfl
theorem ag_66 : isAg Try.prog 66 = some true := by kernel_rfl
theorem ze_66 : zeroC Try.prog 66 = some [.v (.int .u64 0), .v (.int .u64 0), .v (.int .u32 0), .v (.int .u8 0), .v (.int .u8 0), .v (.int .u8 0), .v (.int .u8 0), .v .nilFunc, .v (.pointer none), .v (.int .i32 0), .v (.int .i32 0)] := by kernel_rfl
theorem fo_66_0 : fieldOf Try.prog 66 0 = some (0, 12) := by kernel_rfl
theorem pl_66_0 : placesA Try.prog 66 0 = some (0, 1) := by kernel_rfl
theorem fo_66_1 : fieldOf Try.prog 66 1 = some (1, 12) := by kernel_rfl
theorem pl_66_1 : placesA Try.prog 66 1 = some (1, 1) := by kernel_rfl
theorem fo_66_2 : fieldOf Try.prog 66 2 = some (2, 58) := by kernel_rfl
theorem pl_66_2 : placesA Try.prog 66 2 = some (2, 1) := by kernel_rfl
theorem fo_66_3 : fieldOf Try.prog 66 3 = some (3, 59) := by kernel_rfl
theorem pl_66_3 : placesA Try.prog 66 3 = some (3, 1) := by kernel_rfl
theorem fo_66_4 : fieldOf Try.prog 66 4 = some (4, 5) := by kernel_rfl
theorem pl_66_4 : placesA Try.prog 66 4 = some (4, 1) := by kernel_rfl
theorem fo_66_5 : fieldOf Try.prog 66 5 = some (5, 5) := by kernel_rfl
theorem pl_66_5 : placesA Try.prog 66 5 = some (5, 1) := by kernel_rfl
theorem fo_66_6 : fieldOf Try.prog 66 6 = some (6, 60) := by kernel_rfl
theorem pl_66_6 : placesA Try.prog 66 6 = some (6, 1) := by kernel_rfl
theorem fo_66_7 : fieldOf Try.prog 66 7 = some (7, 61) := by kernel_rfl
theorem pl_66_7 : placesA Try.prog 66 7 = some (7, 1) := by kernel_rfl
theorem fo_66_8 : fieldOf Try.prog 66 8 = some (8, 62) := by kernel_rfl
theorem pl_66_8 : placesA Try.prog 66 8 = some (8, 1) := by kernel_rfl
theorem fo_66_9 : fieldOf Try.prog 66 9 = some (9, 63) := by kernel_rfl
theorem pl_66_9 : placesA Try.prog 66 9 = some (9, 1) := by kernel_rfl
theorem fo_66_10 : fieldOf Try.prog 66 10 = some (10, 64) := by kernel_rfl
theorem pl_66_10 : placesA Try.prog 66 10 = some (10, 1) := by kernel_rfl
theorem ap_66 : appOk Try.prog 66 = true := by kernel_rfl
theorem pd_66 : placed Try.prog 66 = true := by kernel_rfl
theorem by_66 : byOf Try.prog 66 = 48 := by kernel_rfl
theorem fn_2 : Try.prog.funcs[2]? = some Try.f2 := Try.func2
theorem fn_3 : Try.prog.funcs[3]? = some Try.f3 := Try.func3
theorem fn_4 : Try.prog.funcs[4]? = some Try.f4 := Try.func4
theorem fn_5 : Try.prog.funcs[5]? = some Try.f5 := Try.func5
theorem fn_6 : Try.prog.funcs[6]? = some Try.f6 := Try.func6
theorem fn_7 : Try.prog.funcs[7]? = some Try.f7 := Try.func7
theorem fn_8 : Try.prog.funcs[8]? = some Try.f8 := Try.func8
theorem fn_9 : Try.prog.funcs[9]? = some Try.f9 := Try.func9
theorem fn_10 : Try.prog.funcs[10]? = some Try.f10 := Try.func10
theorem fn_11 : Try.prog.funcs[11]? = some Try.f11 := Try.func11
theorem fn_12 : Try.prog.funcs[12]? = some Try.f12 := Try.func12
theorem fn_13 : Try.prog.funcs[13]? = some Try.f13 := Try.func13
theorem fn_14 : Try.prog.funcs[14]? = some Try.f14 := Try.func14
theorem fn_15 : Try.prog.funcs[15]? = some Try.f15 := Try.func15
theorem fn_16 : Try.prog.funcs[16]? = some Try.f16 := Try.func16
theorem fn_17 : Try.prog.funcs[17]? = some Try.f17 := Try.func17
theorem fn_18 : Try.prog.funcs[18]? = some Try.f18 := Try.func18
theorem fn_19 : Try.prog.funcs[19]? = some Try.f19 := Try.func19
theorem fn_20 : Try.prog.funcs[20]? = some Try.f20 := Try.func20
theorem fn_21 : Try.prog.funcs[21]? = some Try.f21 := Try.func21
theorem fn_22 : Try.prog.funcs[22]? = some Try.f22 := Try.func22
theorem fn_23 : Try.prog.funcs[23]? = some Try.f23 := Try.func23
theorem fn_24 : Try.prog.funcs[24]? = some Try.f24 := Try.func24
theorem fn_25 : Try.prog.funcs[25]? = some Try.f25 := Try.func25
theorem fn_27 : Try.prog.funcs[27]? = some Try.f27 := Try.func27
theorem fn_28 : Try.prog.funcs[28]? = some Try.f28 := Try.func28
theorem fn_29 : Try.prog.funcs[29]? = some Try.f29 := Try.func29
theorem fn_30 : Try.prog.funcs[30]? = some Try.f30 := Try.func30
theorem ok_2 : okF C 2 Try.f2 = true := by kernel_rfl
theorem ok_3 : okF C 3 Try.f3 = true := by kernel_rfl
theorem ok_4 : okF C 4 Try.f4 = true := by kernel_rfl
theorem ok_5 : okF C 5 Try.f5 = true := by kernel_rfl
theorem ok_6 : okF C 6 Try.f6 = true := by kernel_rfl
theorem ok_7 : okF C 7 Try.f7 = true := by kernel_rfl
theorem ok_8 : okF C 8 Try.f8 = true := by kernel_rfl
theorem ok_9 : okF C 9 Try.f9 = true := by kernel_rfl
theorem ok_10 : okF C 10 Try.f10 = true := by kernel_rfl
theorem ok_11 : okF C 11 Try.f11 = true := by kernel_rfl
theorem ok_12 : okF C 12 Try.f12 = true := by kernel_rfl
theorem ok_13 : okF C 13 Try.f13 = true := by kernel_rfl
theorem ok_14 : okF C 14 Try.f14 = true := by kernel_rfl
theorem ok_15 : okF C 15 Try.f15 = true := by kernel_rfl
theorem ok_16 : okF C 16 Try.f16 = true := by kernel_rfl
theorem ok_17 : okF C 17 Try.f17 = true := by kernel_rfl
theorem ok_18 : okF C 18 Try.f18 = true := by kernel_rfl
theorem ok_19 : okF C 19 Try.f19 = true := by kernel_rfl
theorem ok_20 : okF C 20 Try.f20 = true := by kernel_rfl
theorem ok_21 : okF C 21 Try.f21 = true := by kernel_rfl
theorem ok_22 : okF C 22 Try.f22 = true := by kernel_rfl
theorem ok_23 : okF C 23 Try.f23 = true := by kernel_rfl
theorem ok_24 : okF C 24 Try.f24 = true := by kernel_rfl
theorem ok_25 : okF C 25 Try.f25 = true := by kernel_rfl
theorem ok_27 : okF C 27 Try.f27 = true := by kernel_rfl
theorem ok_28 : okF C 28 Try.f28 = true := by kernel_rfl
theorem ok_29 : okF C 29 Try.f29 = true := by kernel_rfl
theorem ok_30 : okF C 30 Try.f30 = true := by kernel_rfl
set_option maxRecDepth 100000
theorem EVF : type_of% (And.intro @sz_2 (And.intro @so_2 (And.intro @ag_2 (And.intro @sh_2 (And.intro @ze_2 (And.intro @un_2 (And.intro @ap_2 (And.intro @by_2 (And.intro @sz_3 (And.intro @so_3 (And.intro @ag_3 (And.intro @sh_3 (And.intro @ze_3 (And.intro @un_3 (And.intro @ap_3 (And.intro @by_3 (And.intro @sz_4 (And.intro @so_4 (And.intro @ag_4 (And.intro @sh_4 (And.intro @ze_4 (And.intro @un_4 (And.intro @ap_4 (And.intro @by_4 (And.intro @sz_5 (And.intro @so_5 (And.intro @ag_5 (And.intro @sh_5 (And.intro @ze_5 (And.intro @un_5 (And.intro @ap_5 (And.intro @by_5 (And.intro @sz_6 (And.intro @so_6 (And.intro @ag_6 (And.intro @sh_6 (And.intro @ze_6 (And.intro @un_6 (And.intro @ap_6 (And.intro @by_6 (And.intro @sz_7 (And.intro @so_7 (And.intro @ag_7 (And.intro @sh_7 (And.intro @ze_7 (And.intro @fo_7_0 (And.intro @pl_7_0 (And.intro @fo_7_1 (And.intro @pl_7_1 (And.intro @fo_7_2 (And.intro @pl_7_2 (And.intro @fo_7_3 (And.intro @pl_7_3 (And.intro @ap_7 (And.intro @pd_7 (And.intro @by_7 (And.intro @sz_8 (And.intro @so_8 (And.intro @ag_8 (And.intro @sh_8 (And.intro @ze_8 (And.intro @fo_8_0 (And.intro @pl_8_0 (And.intro @fo_8_1 (And.intro @pl_8_1 (And.intro @fo_8_2 (And.intro @pl_8_2 (And.intro @fo_8_3 (And.intro @pl_8_3 (And.intro @ap_8 (And.intro @pd_8 (And.intro @by_8 (And.intro @sz_9 (And.intro @so_9 (And.intro @ag_9 (And.intro @sh_9 (And.intro @ze_9 (And.intro @un_9 (And.intro @ap_9 (And.intro @by_9 (And.intro @sz_10 (And.intro @so_10 (And.intro @ag_10 (And.intro @sh_10 (And.intro @ze_10 (And.intro @un_10 (And.intro @ap_10 (And.intro @by_10 (And.intro @sz_11 (And.intro @so_11 (And.intro @ag_11 (And.intro @sh_11 (And.intro @ze_11 (And.intro @un_11 (And.intro @ap_11 (And.intro @by_11 (And.intro @sz_12 (And.intro @so_12 (And.intro @ag_12 (And.intro @sh_12 (And.intro @ze_12 (And.intro @un_12 (And.intro @ap_12 (And.intro @by_12 (And.intro @sz_13 (And.intro @so_13 (And.intro @ag_13 (And.intro @sh_13 (And.intro @ze_13 (And.intro @fo_13_0 (And.intro @pl_13_0 (And.intro @fo_13_1 (And.intro @pl_13_1 (And.intro @ap_13 (And.intro @pd_13 (And.intro @by_13 (And.intro @sz_14 (And.intro @so_14 (And.intro @ag_14 (And.intro @sh_14 (And.intro @ze_14 (And.intro @fo_14_0 (And.intro @pl_14_0 (And.intro @fo_14_1 (And.intro @pl_14_1 (And.intro @ap_14 (And.intro @pd_14 (And.intro @by_14 (And.intro @sz_15 (And.intro @so_15 (And.intro @ag_15 (And.intro @ze_15 (And.intro @pt_15 (And.intro @ap_15 (And.intro @by_15 (And.intro @sz_16 (And.intro @so_16 (And.intro @ag_16 (And.intro @ze_16 (And.intro @pt_16 (And.intro @ap_16 (And.intro @by_16 (And.intro @sz_17 (And.intro @so_17 (And.intro @ag_17 (And.intro @ze_17 (And.intro @pt_17 (And.intro @ap_17 (And.intro @by_17 (And.intro @sz_18 (And.intro @so_18 (And.intro @ag_18 (And.intro @ze_18 (And.intro @fo_18_0 (And.intro @pl_18_0 (And.intro @ap_18 (And.intro @pd_18 (And.intro @by_18 (And.intro @sz_19 (And.intro @so_19 (And.intro @ag_19 (And.intro @ze_19 (And.intro @fo_19_0 (And.intro @pl_19_0 (And.intro @ap_19 (And.intro @pd_19 (And.intro @by_19 (And.intro @sz_21 (And.intro @so_21 (And.intro @ag_21 (And.intro @sh_21 (And.intro @ze_21 (And.intro @un_21 (And.intro @ap_21 (And.intro @by_21 (And.intro @sz_22 (And.intro @so_22 (And.intro @ag_22 (And.intro @sh_22 (And.intro @ze_22 (And.intro @el_22 (And.intro @un_22 (And.intro @ap_22 (And.intro @by_22 (And.intro @sz_23 (And.intro @so_23 (And.intro @ag_23 (And.intro @sh_23 (And.intro @ze_23 (And.intro @fo_23_0 (And.intro @pl_23_0 (And.intro @fo_23_1 (And.intro @pl_23_1 (And.intro @fo_23_2 (And.intro @pl_23_2 (And.intro @ap_23 (And.intro @pd_23 (And.intro @by_23 (And.intro @sz_24 (And.intro @so_24 (And.intro @ag_24 (And.intro @sh_24 (And.intro @ze_24 (And.intro @fo_24_0 (And.intro @pl_24_0 (And.intro @fo_24_1 (And.intro @pl_24_1 (And.intro @fo_24_2 (And.intro @pl_24_2 (And.intro @ap_24 (And.intro @pd_24 (And.intro @by_24 (And.intro @sz_28 (And.intro @so_28 (And.intro @ag_28 (And.intro @sh_28 (And.intro @ze_28 (And.intro @un_28 (And.intro @ap_28 (And.intro @by_28 (And.intro @sz_32 (And.intro @so_32 (And.intro @ag_32 (And.intro @sh_32 (And.intro @ze_32 (And.intro @el_32 (And.intro @un_32 (And.intro @ap_32 (And.intro @by_32 (And.intro @sz_37 (And.intro @so_37 (And.intro @ag_37 (And.intro @sh_37 (And.intro @ze_37 (And.intro @el_37 (And.intro @un_37 (And.intro @ap_37 (And.intro @by_37 (And.intro @sz_46 (And.intro @so_46 (And.intro @ag_46 (And.intro @sh_46 (And.intro @ze_46 (And.intro @un_46 (And.intro @ap_46 (And.intro @by_46 (And.intro @sz_52 (And.intro @so_52 (And.intro @ag_52 (And.intro @ze_52 (And.intro @fo_52_0 (And.intro @pl_52_0 (And.intro @fo_52_1 (And.intro @pl_52_1 (And.intro @fo_52_2 (And.intro @pl_52_2 (And.intro @fo_52_3 (And.intro @pl_52_3 (And.intro @ap_52 (And.intro @pd_52 (And.intro @by_52 (And.intro @sz_53 (And.intro @so_53 (And.intro @ag_53 (And.intro @ze_53 (And.intro @fo_53_0 (And.intro @pl_53_0 (And.intro @fo_53_1 (And.intro @pl_53_1 (And.intro @fo_53_2 (And.intro @pl_53_2 (And.intro @fo_53_3 (And.intro @pl_53_3 (And.intro @ap_53 (And.intro @pd_53 (And.intro @by_53 (And.intro @sz_54 (And.intro @so_54 (And.intro @ag_54 (And.intro @sh_54 (And.intro @ze_54 (And.intro @ar_54 (And.intro @pl_54 (And.intro @pd_54 (And.intro @by_54 (And.intro @sz_55 (And.intro @so_55 (And.intro @ag_55 (And.intro @sh_55 (And.intro @ze_55 (And.intro @fo_55_0 (And.intro @pl_55_0 (And.intro @pd_55 (And.intro @by_55 (And.intro @sz_56 (And.intro @so_56 (And.intro @ag_56 (And.intro @sh_56 (And.intro @ze_56 (And.intro @fo_56_0 (And.intro @pl_56_0 (And.intro @pd_56 (And.intro @by_56 (And.intro @sz_58 (And.intro @so_58 (And.intro @ag_58 (And.intro @sh_58 (And.intro @ze_58 (And.intro @un_58 (And.intro @ap_58 (And.intro @by_58 (And.intro @sz_59 (And.intro @so_59 (And.intro @ag_59 (And.intro @sh_59 (And.intro @ze_59 (And.intro @un_59 (And.intro @ap_59 (And.intro @by_59 (And.intro @sz_60 (And.intro @so_60 (And.intro @ag_60 (And.intro @sh_60 (And.intro @ze_60 (And.intro @un_60 (And.intro @ap_60 (And.intro @by_60 (And.intro @sz_62 (And.intro @so_62 (And.intro @ag_62 (And.intro @ze_62 (And.intro @pt_62 (And.intro @ap_62 (And.intro @by_62 (And.intro @sz_63 (And.intro @so_63 (And.intro @ag_63 (And.intro @sh_63 (And.intro @ze_63 (And.intro @un_63 (And.intro @ap_63 (And.intro @by_63 (And.intro @sz_64 (And.intro @so_64 (And.intro @ag_64 (And.intro @sh_64 (And.intro @ze_64 (And.intro @un_64 (And.intro @ap_64 (And.intro @by_64 (And.intro @sz_65 (And.intro @so_65 (And.intro @ag_65 (And.intro @ze_65 (And.intro @fo_65_0 (And.intro @pl_65_0 (And.intro @fo_65_1 (And.intro @pl_65_1 (And.intro @fo_65_2 (And.intro @pl_65_2 (And.intro @fo_65_3 (And.intro @pl_65_3 (And.intro @fo_65_4 (And.intro @pl_65_4 (And.intro @fo_65_5 (And.intro @pl_65_5 (And.intro @fo_65_6 (And.intro @pl_65_6 (And.intro @fo_65_7 (And.intro @pl_65_7 (And.intro @fo_65_8 (And.intro @pl_65_8 (And.intro @fo_65_9 (And.intro @pl_65_9 (And.intro @fo_65_10 (And.intro @pl_65_10 (And.intro @ap_65 (And.intro @pd_65 (And.intro @by_65 (And.intro @sz_66 (And.intro @so_66 (And.intro @ag_66 (And.intro @ze_66 (And.intro @fo_66_0 (And.intro @pl_66_0 (And.intro @fo_66_1 (And.intro @pl_66_1 (And.intro @fo_66_2 (And.intro @pl_66_2 (And.intro @fo_66_3 (And.intro @pl_66_3 (And.intro @fo_66_4 (And.intro @pl_66_4 (And.intro @fo_66_5 (And.intro @pl_66_5 (And.intro @fo_66_6 (And.intro @pl_66_6 (And.intro @fo_66_7 (And.intro @pl_66_7 (And.intro @fo_66_8 (And.intro @pl_66_8 (And.intro @fo_66_9 (And.intro @pl_66_9 (And.intro @fo_66_10 (And.intro @pl_66_10 (And.intro @ap_66 (And.intro @pd_66 (And.intro @by_66 (And.intro @fn_2 (And.intro @fn_3 (And.intro @fn_4 (And.intro @fn_5 (And.intro @fn_6 (And.intro @fn_7 (And.intro @fn_8 (And.intro @fn_9 (And.intro @fn_10 (And.intro @fn_11 (And.intro @fn_12 (And.intro @fn_13 (And.intro @fn_14 (And.intro @fn_15 (And.intro @fn_16 (And.intro @fn_17 (And.intro @fn_18 (And.intro @fn_19 (And.intro @fn_20 (And.intro @fn_21 (And.intro @fn_22 (And.intro @fn_23 (And.intro @fn_24 (And.intro @fn_25 (And.intro @fn_27 (And.intro @fn_28 (And.intro @fn_29 (And.intro @fn_30 (And.intro @C_P (And.intro @C_norms (And.intro @C_heap (And.intro @C_quiet (And.intro @C_cuts (And.intro @C_draws (And.intro @C_prim (And.intro @C_shp (And.intro @C_drawm (And.intro @C_opn (And.intro @C_ext (And.intro @C_ice (@C_shut))))))))))))))))))))))))))))))))))))))))))))))))))))))))))))))))))))))))))))))))))))))))))))))))))))))))))))))))))))))))))))))))))))))))))))))))))))))))))))))))))))))))))))))))))))))))))))))))))))))))))))))))))))))))))))))))))))))))))))))))))))))))))))))))))))))))))))))))))))))))))))))))))))))))))))))))))))))))))))))))))))))))))))))))))))))))))))))))))))))))))))))))))))))))))))))))))))))))))))))))))))))))))))))))))))))))))))))))))))))))))))))))) := And.intro @sz_2 (And.intro @so_2 (And.intro @ag_2 (And.intro @sh_2 (And.intro @ze_2 (And.intro @un_2 (And.intro @ap_2 (And.intro @by_2 (And.intro @sz_3 (And.intro @so_3 (And.intro @ag_3 (And.intro @sh_3 (And.intro @ze_3 (And.intro @un_3 (And.intro @ap_3 (And.intro @by_3 (And.intro @sz_4 (And.intro @so_4 (And.intro @ag_4 (And.intro @sh_4 (And.intro @ze_4 (And.intro @un_4 (And.intro @ap_4 (And.intro @by_4 (And.intro @sz_5 (And.intro @so_5 (And.intro @ag_5 (And.intro @sh_5 (And.intro @ze_5 (And.intro @un_5 (And.intro @ap_5 (And.intro @by_5 (And.intro @sz_6 (And.intro @so_6 (And.intro @ag_6 (And.intro @sh_6 (And.intro @ze_6 (And.intro @un_6 (And.intro @ap_6 (And.intro @by_6 (And.intro @sz_7 (And.intro @so_7 (And.intro @ag_7 (And.intro @sh_7 (And.intro @ze_7 (And.intro @fo_7_0 (And.intro @pl_7_0 (And.intro @fo_7_1 (And.intro @pl_7_1 (And.intro @fo_7_2 (And.intro @pl_7_2 (And.intro @fo_7_3 (And.intro @pl_7_3 (And.intro @ap_7 (And.intro @pd_7 (And.intro @by_7 (And.intro @sz_8 (And.intro @so_8 (And.intro @ag_8 (And.intro @sh_8 (And.intro @ze_8 (And.intro @fo_8_0 (And.intro @pl_8_0 (And.intro @fo_8_1 (And.intro @pl_8_1 (And.intro @fo_8_2 (And.intro @pl_8_2 (And.intro @fo_8_3 (And.intro @pl_8_3 (And.intro @ap_8 (And.intro @pd_8 (And.intro @by_8 (And.intro @sz_9 (And.intro @so_9 (And.intro @ag_9 (And.intro @sh_9 (And.intro @ze_9 (And.intro @un_9 (And.intro @ap_9 (And.intro @by_9 (And.intro @sz_10 (And.intro @so_10 (And.intro @ag_10 (And.intro @sh_10 (And.intro @ze_10 (And.intro @un_10 (And.intro @ap_10 (And.intro @by_10 (And.intro @sz_11 (And.intro @so_11 (And.intro @ag_11 (And.intro @sh_11 (And.intro @ze_11 (And.intro @un_11 (And.intro @ap_11 (And.intro @by_11 (And.intro @sz_12 (And.intro @so_12 (And.intro @ag_12 (And.intro @sh_12 (And.intro @ze_12 (And.intro @un_12 (And.intro @ap_12 (And.intro @by_12 (And.intro @sz_13 (And.intro @so_13 (And.intro @ag_13 (And.intro @sh_13 (And.intro @ze_13 (And.intro @fo_13_0 (And.intro @pl_13_0 (And.intro @fo_13_1 (And.intro @pl_13_1 (And.intro @ap_13 (And.intro @pd_13 (And.intro @by_13 (And.intro @sz_14 (And.intro @so_14 (And.intro @ag_14 (And.intro @sh_14 (And.intro @ze_14 (And.intro @fo_14_0 (And.intro @pl_14_0 (And.intro @fo_14_1 (And.intro @pl_14_1 (And.intro @ap_14 (And.intro @pd_14 (And.intro @by_14 (And.intro @sz_15 (And.intro @so_15 (And.intro @ag_15 (And.intro @ze_15 (And.intro @pt_15 (And.intro @ap_15 (And.intro @by_15 (And.intro @sz_16 (And.intro @so_16 (And.intro @ag_16 (And.intro @ze_16 (And.intro @pt_16 (And.intro @ap_16 (And.intro @by_16 (And.intro @sz_17 (And.intro @so_17 (And.intro @ag_17 (And.intro @ze_17 (And.intro @pt_17 (And.intro @ap_17 (And.intro @by_17 (And.intro @sz_18 (And.intro @so_18 (And.intro @ag_18 (And.intro @ze_18 (And.intro @fo_18_0 (And.intro @pl_18_0 (And.intro @ap_18 (And.intro @pd_18 (And.intro @by_18 (And.intro @sz_19 (And.intro @so_19 (And.intro @ag_19 (And.intro @ze_19 (And.intro @fo_19_0 (And.intro @pl_19_0 (And.intro @ap_19 (And.intro @pd_19 (And.intro @by_19 (And.intro @sz_21 (And.intro @so_21 (And.intro @ag_21 (And.intro @sh_21 (And.intro @ze_21 (And.intro @un_21 (And.intro @ap_21 (And.intro @by_21 (And.intro @sz_22 (And.intro @so_22 (And.intro @ag_22 (And.intro @sh_22 (And.intro @ze_22 (And.intro @el_22 (And.intro @un_22 (And.intro @ap_22 (And.intro @by_22 (And.intro @sz_23 (And.intro @so_23 (And.intro @ag_23 (And.intro @sh_23 (And.intro @ze_23 (And.intro @fo_23_0 (And.intro @pl_23_0 (And.intro @fo_23_1 (And.intro @pl_23_1 (And.intro @fo_23_2 (And.intro @pl_23_2 (And.intro @ap_23 (And.intro @pd_23 (And.intro @by_23 (And.intro @sz_24 (And.intro @so_24 (And.intro @ag_24 (And.intro @sh_24 (And.intro @ze_24 (And.intro @fo_24_0 (And.intro @pl_24_0 (And.intro @fo_24_1 (And.intro @pl_24_1 (And.intro @fo_24_2 (And.intro @pl_24_2 (And.intro @ap_24 (And.intro @pd_24 (And.intro @by_24 (And.intro @sz_28 (And.intro @so_28 (And.intro @ag_28 (And.intro @sh_28 (And.intro @ze_28 (And.intro @un_28 (And.intro @ap_28 (And.intro @by_28 (And.intro @sz_32 (And.intro @so_32 (And.intro @ag_32 (And.intro @sh_32 (And.intro @ze_32 (And.intro @el_32 (And.intro @un_32 (And.intro @ap_32 (And.intro @by_32 (And.intro @sz_37 (And.intro @so_37 (And.intro @ag_37 (And.intro @sh_37 (And.intro @ze_37 (And.intro @el_37 (And.intro @un_37 (And.intro @ap_37 (And.intro @by_37 (And.intro @sz_46 (And.intro @so_46 (And.intro @ag_46 (And.intro @sh_46 (And.intro @ze_46 (And.intro @un_46 (And.intro @ap_46 (And.intro @by_46 (And.intro @sz_52 (And.intro @so_52 (And.intro @ag_52 (And.intro @ze_52 (And.intro @fo_52_0 (And.intro @pl_52_0 (And.intro @fo_52_1 (And.intro @pl_52_1 (And.intro @fo_52_2 (And.intro @pl_52_2 (And.intro @fo_52_3 (And.intro @pl_52_3 (And.intro @ap_52 (And.intro @pd_52 (And.intro @by_52 (And.intro @sz_53 (And.intro @so_53 (And.intro @ag_53 (And.intro @ze_53 (And.intro @fo_53_0 (And.intro @pl_53_0 (And.intro @fo_53_1 (And.intro @pl_53_1 (And.intro @fo_53_2 (And.intro @pl_53_2 (And.intro @fo_53_3 (And.intro @pl_53_3 (And.intro @ap_53 (And.intro @pd_53 (And.intro @by_53 (And.intro @sz_54 (And.intro @so_54 (And.intro @ag_54 (And.intro @sh_54 (And.intro @ze_54 (And.intro @ar_54 (And.intro @pl_54 (And.intro @pd_54 (And.intro @by_54 (And.intro @sz_55 (And.intro @so_55 (And.intro @ag_55 (And.intro @sh_55 (And.intro @ze_55 (And.intro @fo_55_0 (And.intro @pl_55_0 (And.intro @pd_55 (And.intro @by_55 (And.intro @sz_56 (And.intro @so_56 (And.intro @ag_56 (And.intro @sh_56 (And.intro @ze_56 (And.intro @fo_56_0 (And.intro @pl_56_0 (And.intro @pd_56 (And.intro @by_56 (And.intro @sz_58 (And.intro @so_58 (And.intro @ag_58 (And.intro @sh_58 (And.intro @ze_58 (And.intro @un_58 (And.intro @ap_58 (And.intro @by_58 (And.intro @sz_59 (And.intro @so_59 (And.intro @ag_59 (And.intro @sh_59 (And.intro @ze_59 (And.intro @un_59 (And.intro @ap_59 (And.intro @by_59 (And.intro @sz_60 (And.intro @so_60 (And.intro @ag_60 (And.intro @sh_60 (And.intro @ze_60 (And.intro @un_60 (And.intro @ap_60 (And.intro @by_60 (And.intro @sz_62 (And.intro @so_62 (And.intro @ag_62 (And.intro @ze_62 (And.intro @pt_62 (And.intro @ap_62 (And.intro @by_62 (And.intro @sz_63 (And.intro @so_63 (And.intro @ag_63 (And.intro @sh_63 (And.intro @ze_63 (And.intro @un_63 (And.intro @ap_63 (And.intro @by_63 (And.intro @sz_64 (And.intro @so_64 (And.intro @ag_64 (And.intro @sh_64 (And.intro @ze_64 (And.intro @un_64 (And.intro @ap_64 (And.intro @by_64 (And.intro @sz_65 (And.intro @so_65 (And.intro @ag_65 (And.intro @ze_65 (And.intro @fo_65_0 (And.intro @pl_65_0 (And.intro @fo_65_1 (And.intro @pl_65_1 (And.intro @fo_65_2 (And.intro @pl_65_2 (And.intro @fo_65_3 (And.intro @pl_65_3 (And.intro @fo_65_4 (And.intro @pl_65_4 (And.intro @fo_65_5 (And.intro @pl_65_5 (And.intro @fo_65_6 (And.intro @pl_65_6 (And.intro @fo_65_7 (And.intro @pl_65_7 (And.intro @fo_65_8 (And.intro @pl_65_8 (And.intro @fo_65_9 (And.intro @pl_65_9 (And.intro @fo_65_10 (And.intro @pl_65_10 (And.intro @ap_65 (And.intro @pd_65 (And.intro @by_65 (And.intro @sz_66 (And.intro @so_66 (And.intro @ag_66 (And.intro @ze_66 (And.intro @fo_66_0 (And.intro @pl_66_0 (And.intro @fo_66_1 (And.intro @pl_66_1 (And.intro @fo_66_2 (And.intro @pl_66_2 (And.intro @fo_66_3 (And.intro @pl_66_3 (And.intro @fo_66_4 (And.intro @pl_66_4 (And.intro @fo_66_5 (And.intro @pl_66_5 (And.intro @fo_66_6 (And.intro @pl_66_6 (And.intro @fo_66_7 (And.intro @pl_66_7 (And.intro @fo_66_8 (And.intro @pl_66_8 (And.intro @fo_66_9 (And.intro @pl_66_9 (And.intro @fo_66_10 (And.intro @pl_66_10 (And.intro @ap_66 (And.intro @pd_66 (And.intro @by_66 (And.intro @fn_2 (And.intro @fn_3 (And.intro @fn_4 (And.intro @fn_5 (And.intro @fn_6 (And.intro @fn_7 (And.intro @fn_8 (And.intro @fn_9 (And.intro @fn_10 (And.intro @fn_11 (And.intro @fn_12 (And.intro @fn_13 (And.intro @fn_14 (And.intro @fn_15 (And.intro @fn_16 (And.intro @fn_17 (And.intro @fn_18 (And.intro @fn_19 (And.intro @fn_20 (And.intro @fn_21 (And.intro @fn_22 (And.intro @fn_23 (And.intro @fn_24 (And.intro @fn_25 (And.intro @fn_27 (And.intro @fn_28 (And.intro @fn_29 (And.intro @fn_30 (And.intro @C_P (And.intro @C_norms (And.intro @C_heap (And.intro @C_quiet (And.intro @C_cuts (And.intro @C_draws (And.intro @C_prim (And.intro @C_shp (And.intro @C_drawm (And.intro @C_opn (And.intro @C_ext (And.intro @C_ice (@C_shut))))))))))))))))))))))))))))))))))))))))))))))))))))))))))))))))))))))))))))))))))))))))))))))))))))))))))))))))))))))))))))))))))))))))))))))))))))))))))))))))))))))))))))))))))))))))))))))))))))))))))))))))))))))))))))))))))))))))))))))))))))))))))))))))))))))))))))))))))))))))))))))))))))))))))))))))))))))))))))))))))))))))))))))))))))))))))))))))))))))))))))))))))))))))))))))))))))))))))))))))))))))))))))))))))))))))))))))))))))))))))))))))
end Go.Ai
