/- The configuration of the abstract machine for this seat, and closed facts on its types. Written by ai_gen.py. -/
import Derived.Test.YtlpjaehliaeifaaProg
import Derived.Test.YtlpjaehliaeifaaAiEv
import Derived.Test.YtlpjaehliaeifaaAiVar
import Derived.Test.YtlpjaehliaeifaaAiPrim
namespace Go.Ai
open Go.Proofs

def normsOf : FuncId → Nat → Norm
  | 3, 3 => ⟨[4, 5, 13, 32, 33, 34], [12, 13], [], 0, []⟩
  | 3, 14 => ⟨[4, 5, 13, 15, 16, 18, 32, 33, 34, 91, 92, 93], [4, 5, 12, 13, 32, 33, 34], [], 0, []⟩
  | 4, 3 => ⟨[1, 2, 3, 7, 8], [6, 7], [], 0, []⟩
  | 4, 15 => ⟨[1, 2, 3, 7, 8, 9, 10, 14, 15], [1, 2, 3, 6, 7, 8, 9, 10, 14, 15], [], 0, []⟩
  | 4, 17 => ⟨[1, 2, 3, 7, 8, 9, 10, 14, 15], [1, 2, 3, 6, 7, 8, 9, 10, 14, 15], [], 0, []⟩
  | 4, 22 => ⟨[1, 2, 3, 7, 8, 9, 10, 14, 15, 16], [1, 2, 3, 6, 7, 8], [], 0, []⟩
  | 6, 3 => ⟨[9, 26, 27, 28], [8, 9], [], 0, []⟩
  | 7, 3 => ⟨[9, 26, 27, 28], [8, 9], [], 0, []⟩
  | 9, 12 => ⟨[0, 8, 9, 11, 12], [8, 9], [], 0, []⟩
  | 10, 6 => ⟨[1, 2, 18, 19, 20], [1, 2, 3], [], 0, []⟩
  | 21, 4 => ⟨[0, 1, 5, 6, 7], [4, 5], [(5, 40, 2)], 0, []⟩
  | 24, 4 => ⟨[0, 1, 5], [4], [], 0, []⟩
  | 31, 5 => ⟨[0, 1, 5, 6], [0, 4, 5], [], 0, []⟩
  | 33, 3 => ⟨[0, 3, 6, 7, 8], [0, 2], [], 0, []⟩
  | 36, 5 => ⟨[4, 14, 15, 16], [2, 3, 4], [], 0, []⟩
  | 36, 8 => ⟨[4, 6, 14, 15, 16, 25, 26], [2, 3, 4, 6, 14, 15, 16], [], 0, []⟩
  | 38, 8 => ⟨[0, 5, 6, 7], [2, 3, 4, 5, 6], [], 0, []⟩
  | 40, 11 => ⟨[0, 4, 6, 10, 11], [0, 4, 5, 10], [], 0, []⟩
  | 42, 2 => ⟨[1, 2, 4], [1, 2, 3, 4], [], 0, []⟩
  | 44, 3 => ⟨[0, 1, 5, 6], [1, 4, 5], [], 0, []⟩
  | 45, 2 => ⟨[0, 1, 7, 8], [4], [], 0, []⟩
  | 49, 2 => ⟨[0, 6, 7], [2], [], 0, []⟩
  | 52, 6 => ⟨[0, 5, 6], [2, 3, 5], [], 0, []⟩
  | 53, 5 => ⟨[0, 4, 5], [2, 3, 4], [(4, 40, 2)], 0, []⟩
  | 54, 2 => ⟨[0, 1, 6], [4, 5], [], 0, []⟩
  | 57, 0 => ⟨[0, 1], [0, 1], [], 0, []⟩
  | 58, 2 => ⟨[0, 3], [0, 2], [], 0, []⟩
  | 60, 4 => ⟨[0, 4], [0, 2, 3, 4], [], 0, []⟩
  | 61, 4 => ⟨[0, 5, 6, 7], [0, 2, 3, 4], [], 0, []⟩
  | _, _ => ⟨[], [], [], 0, []⟩
def cutsOf : FuncId → Nat → Option Norm
  | 9, 2 => some ⟨[0, 2, 3, 5, 8, 9], [], [], 0, []⟩
  | 9, 4 => some ⟨[0, 2, 3, 5, 8, 9], [], [], 0, []⟩
  | 9, 7 => some ⟨[0, 2, 3, 5, 8, 9], [], [], 0, []⟩
  | 9, 10 => some ⟨[0, 2, 3, 8, 9], [], [], 0, []⟩
  | _, _ => none
def heapOf : FuncId → Bool
  | 31 => true
  | 46 => true
  | 47 => true
  | 48 => true
  | 50 => true
  | 59 => true
  | 78 => true
  | _ => false
def quietOf : FuncId → Bool
  | _ => false
def opnOf : FuncId → Bool
  | _ => false
def shutOf : FuncId → Option (TypeId × Nat)
  | 27 => some (40, 2)
  | 31 => some (40, 2)
  | _ => none
def coldOf : FuncId → Bool
  | 10 => true
  | 11 => true
  | 13 => true
  | 14 => true
  | 16 => true
  | 17 => true
  | _ => false
def drawsOf : FuncId → Nat → Option (List Nat)
  | 3, 2 => some [0, 1, 2, 3, 5, 6, 7, 11, 4, 8, 9, 10]
  | 4, 24 => some [0, 1, 2, 3, 4, 5, 6, 7, 8, 9, 10, 11, 12, 13, 14]
  | 6, 2 => some [0, 1, 2, 4, 7, 3, 5, 6]
  | 7, 2 => some [0, 1, 2, 4, 7, 3, 5, 6]
  | 9, 15 => some [0, 1, 2, 3, 4, 5, 6, 7, 8, 9]
  | 18, 11 => some [0, 1, 2, 3, 4, 5, 6, 7, 8, 9, 10, 11, 12, 13, 14]
  | 19, 3 => some [0, 1, 2, 3, 4, 5, 6, 7, 10, 11, 14, 15, 16, 8, 9, 12, 13, 17, 18]
  | 24, 6 => some [0, 1, 2, 3, 4, 5, 6, 7, 8]
  | 40, 14 => some [0, 1, 2, 3, 4, 5, 6, 7, 8, 9]
  | 41, 7 => some [0, 1, 3, 4, 2, 5, 6, 7]
  | 58, 4 => some [0, 1, 2, 3, 4, 5, 6, 7, 8, 9, 10, 11, 12, 13, 14, 15, 16, 17, 18, 19, 20, 21, 22, 23, 24, 25, 26, 27, 28, 29, 30, 31, 32, 33, 34, 35, 36, 37, 38, 39, 40]
  | _, _ => none
def drawmOf : FuncId → Nat → Option OT
  | 9, 1 => some (.step 1 (.step 2 (.step 6 (.step 7 (.fork (.step 0 (.fork (.step 3 (.step 4 (.step 5 (.fork (.step 8 (.step 9 (.step 10 (.step 11 .done)))) (.step 10 (.step 8 (.step 9 (.step 11 .done)))))))) (.step 10 (.step 3 (.step 4 (.step 5 (.step 8 (.step 9 (.step 11 .done))))))))) (.fork (.step 3 (.fork (.step 0 (.step 4 (.step 5 (.fork (.step 8 (.step 9 (.step 10 (.step 11 .done)))) (.step 10 (.step 8 (.step 9 (.step 11 .done)))))))) (.fork (.step 8 (.fork (.step 0 (.step 4 (.step 5 (.step 9 (.step 10 (.step 11 .done)))))) (.step 10 (.step 0 (.step 4 (.step 5 (.step 9 (.step 11 .done)))))))) (.step 10 (.fork (.step 0 (.step 4 (.step 5 (.step 8 (.step 9 (.step 11 .done)))))) (.step 8 (.step 0 (.step 4 (.step 5 (.step 9 (.step 11 .done))))))))))) (.step 10 (.fork (.step 0 (.step 3 (.step 4 (.step 5 (.step 8 (.step 9 (.step 11 .done))))))) (.step 3 (.fork (.step 0 (.step 4 (.step 5 (.step 8 (.step 9 (.step 11 .done)))))) (.step 8 (.step 0 (.step 4 (.step 5 (.step 9 (.step 11 .done))))))))))))))))
  | _, _ => none
def extOf : FuncId → Option ExtA
  | _ => none
def primOf : FuncId → Option Prim
  | 25 => some primPut
  | 48 => some (primString 75 5)
  | 59 => some (primCheck 75)
  | _ => none
def shpOf : FuncId → List (List (Option Nat))
  | 3 => [[none, none, none, none, none, some 2], [none, none, none, none, none], [some 2], [some 1], [none], [none]]
  | 4 => [[none, none, none, none, none], [some 2], [some 1]]
  | 5 => [[none, none, none, none, none], [some 2], [some 1]]
  | 6 => [[none, none, none, none, none], [some 2], [some 1], [none, none, none, none, none, some 2]]
  | 7 => [[none, none, none, none, none], [some 2], [some 1], [none, none, none, none, none, some 2]]
  | 9 => [[none], [none, none, none, none, none], [some 2], [some 1]]
  | 10 => [[none, none, none, none, none, some 2]]
  | 11 => [[none, none, none, none, none, some 2]]
  | 12 => [[none, none, none, none, none, some 2], [none, none, none, none, none, some 2]]
  | 13 => [[none, none, none, none, none, some 2]]
  | 14 => [[none, none, none, none, none, some 2]]
  | 16 => [[none], [none], [none, none, none, none, none, some 2]]
  | 17 => [[none], [none], [none, none, none, none, none, some 2]]
  | 18 => [[none], [none, none, none, none, none, some 2]]
  | 19 => [[none], [none, none, none, none, none, some 2]]
  | 21 => [[some 2], [some 1]]
  | 23 => [[none], [none], [none, none, none, none, none, some 2]]
  | 24 => [[some 2], [some 2]]
  | 27 => [[some 2]]
  | 28 => [[none], [none, none, none, none, none, some 2]]
  | 29 => [[some 2]]
  | 31 => [[some 2], [none]]
  | 33 => [[some 2]]
  | 36 => [[some 2]]
  | 39 => [[none], [none, none, none, none, none, some 2]]
  | 41 => [[none, none, none, none, none, some 2]]
  | 42 => [[none, none, none, none, none, some 2]]
  | 44 => [[none], [some 2]]
  | 45 => [[some 2], [none]]
  | 50 => [[some 2], [none], [none]]
  | 52 => [[some 2]]
  | 54 => [[some 2], [none]]
  | 58 => [[some 2]]
  | _ => []
def iceOf : FuncId → Option (List (List (Option Nat)))
  | 9 => some [[none, none, none, none, none, some 2]]
  | 10 => some [[none, none, none, none, none, some 2], [none]]
  | 11 => some [[none, none, none, none, none, some 2], [none]]
  | 13 => some [[none, none, none, none, none, some 2], [none]]
  | 14 => some [[none, none, none, none, none, some 2], [none]]
  | 16 => some [[none, none, none, none, none, some 2], [none]]
  | 17 => some [[none, none, none, none, none, some 2], [none]]
  | 23 => some [[none, none, none, none, none, some 2], [none]]
  | 40 => some [[none, none, none, none, none, some 2], [none]]
  | 41 => some [[none, none, none, none, none, some 2]]
  | 42 => some [[none, none, none, none, none, some 2], [none]]
  | _ => none
noncomputable def C : Cfg := { P := Try.prog, norms := normsOf, cuts := cutsOf, heap := heapOf, draws := drawsOf, prim := primOf, quiet := quietOf, shp := shpOf, drawm := drawmOf, opn := opnOf, shut := shutOf, ext := extOf, ice := iceOf, cold := coldOf }
theorem C_P : C.P = Try.prog := rfl
theorem C_norms (f n : Nat) : C.norms f n = normsOf f n := rfl
theorem C_heap (f : Nat) : C.heap f = heapOf f := rfl
theorem C_cuts (f n : Nat) : C.cuts f n = cutsOf f n := rfl
theorem C_quiet (f : Nat) : C.quiet f = quietOf f := rfl
theorem C_draws (f n : Nat) : C.draws f n = drawsOf f n := rfl
theorem C_prim (f : Nat) : C.prim f = primOf f := rfl
theorem C_shp (f : Nat) : C.shp f = shpOf f := rfl
theorem C_drawm (f n : Nat) : C.drawm f n = drawmOf f n := rfl
theorem C_ice (f : Nat) : C.ice f = iceOf f := rfl
theorem C_ext (f : Nat) : C.ext f = extOf f := rfl
theorem C_cold (f : Nat) : C.cold f = coldOf f := rfl
theorem C_opn (f : Nat) : C.opn f = opnOf f := rfl
theorem C_shut (f : Nat) : C.shut f = shutOf f := rfl
theorem sz_2 : szOf Try.prog 2 = 1 := by kernel_rfl
theorem so_2 : szO Try.prog 2 = some 1 := by kernel_rfl
theorem ag_2 : isAg Try.prog 2 = some false := by kernel_rfl
theorem sh_2 : shapes Try.prog 10 2 = [.int .i64] := by kernel_rfl
theorem ze_2 : zeroC Try.prog 2 = some [.v (.int .i64 0)] := by kernel_rfl
theorem ii_2 : isIface Try.prog 2 = some false := by kernel_rfl
theorem zv_2 : zeroV Try.prog 2 = some (.v (.int .i64 0)) := by kernel_rfl
theorem un_2 : Try.prog.underlying 2 = some (.int .i64) := by kernel_rfl
theorem ap_2 : appOk Try.prog 2 = true := by kernel_rfl
theorem by_2 : byOf Try.prog 2 = 8 := by kernel_rfl
theorem sz_3 : szOf Try.prog 3 = 1 := by kernel_rfl
theorem so_3 : szO Try.prog 3 = some 1 := by kernel_rfl
theorem ag_3 : isAg Try.prog 3 = some false := by kernel_rfl
theorem sh_3 : shapes Try.prog 10 3 = [.int .i64] := by kernel_rfl
theorem ze_3 : zeroC Try.prog 3 = some [.v (.int .i64 0)] := by kernel_rfl
theorem ii_3 : isIface Try.prog 3 = some false := by kernel_rfl
theorem zv_3 : zeroV Try.prog 3 = some (.v (.int .i64 0)) := by kernel_rfl
theorem un_3 : Try.prog.underlying 3 = some (.int .i64) := by kernel_rfl
theorem ap_3 : appOk Try.prog 3 = true := by kernel_rfl
theorem by_3 : byOf Try.prog 3 = 8 := by kernel_rfl
theorem sz_4 : szOf Try.prog 4 = 1 := by kernel_rfl
theorem so_4 : szO Try.prog 4 = some 1 := by kernel_rfl
theorem ag_4 : isAg Try.prog 4 = some false := by kernel_rfl
theorem sh_4 : shapes Try.prog 10 4 = [.bool] := by kernel_rfl
theorem ze_4 : zeroC Try.prog 4 = some [.v (.bool false)] := by kernel_rfl
theorem ii_4 : isIface Try.prog 4 = some false := by kernel_rfl
theorem zv_4 : zeroV Try.prog 4 = some (.v (.bool false)) := by kernel_rfl
theorem un_4 : Try.prog.underlying 4 = some .bool := by kernel_rfl
theorem ap_4 : appOk Try.prog 4 = true := by kernel_rfl
theorem by_4 : byOf Try.prog 4 = 1 := by kernel_rfl
theorem sz_5 : szOf Try.prog 5 = 1 := by kernel_rfl
theorem so_5 : szO Try.prog 5 = some 1 := by kernel_rfl
theorem ag_5 : isAg Try.prog 5 = some false := by kernel_rfl
theorem sh_5 : shapes Try.prog 10 5 = [.int .u8] := by kernel_rfl
theorem ze_5 : zeroC Try.prog 5 = some [.v (.int .u8 0)] := by kernel_rfl
theorem ii_5 : isIface Try.prog 5 = some false := by kernel_rfl
theorem zv_5 : zeroV Try.prog 5 = some (.v (.int .u8 0)) := by kernel_rfl
theorem un_5 : Try.prog.underlying 5 = some (.int .u8) := by kernel_rfl
theorem ap_5 : appOk Try.prog 5 = true := by kernel_rfl
theorem by_5 : byOf Try.prog 5 = 1 := by kernel_rfl
theorem sz_6 : szOf Try.prog 6 = 1 := by kernel_rfl
theorem so_6 : szO Try.prog 6 = some 1 := by kernel_rfl
theorem ag_6 : isAg Try.prog 6 = some false := by kernel_rfl
theorem sh_6 : shapes Try.prog 10 6 = [.int .u8] := by kernel_rfl
theorem ze_6 : zeroC Try.prog 6 = some [.v (.int .u8 0)] := by kernel_rfl
theorem ii_6 : isIface Try.prog 6 = some false := by kernel_rfl
theorem zv_6 : zeroV Try.prog 6 = some (.v (.int .u8 0)) := by kernel_rfl
theorem un_6 : Try.prog.underlying 6 = some (.int .u8) := by kernel_rfl
theorem ap_6 : appOk Try.prog 6 = true := by kernel_rfl
theorem by_6 : byOf Try.prog 6 = 1 := by kernel_rfl
theorem sz_7 : szOf Try.prog 7 = 4 := by kernel_rfl
theorem so_7 : szO Try.prog 7 = some 4 := by kernel_rfl
theorem ag_7 : isAg Try.prog 7 = some true := by kernel_rfl
theorem sh_7 : shapes Try.prog 10 7 = [.int .i64, .int .i64, .bool, .int .u8] := by kernel_rfl
theorem ze_7 : zeroC Try.prog 7 = some [.v (.int .i64 0), .v (.int .i64 0), .v (.bool false), .v (.int .u8 0)] := by kernel_rfl
theorem ii_7 : isIface Try.prog 7 = some false := by kernel_rfl
theorem zv_7 : zeroV Try.prog 7 = some (.agg [.v (.int .i64 0), .v (.int .i64 0), .v (.bool false), .v (.int .u8 0)]) := by kernel_rfl
theorem fo_7_0 : fieldOf Try.prog 7 0 = some (0, 2) := by kernel_rfl
theorem pl_7_0 : placesA Try.prog 7 0 = some (0, 1) := by kernel_rfl
theorem fo_7_1 : fieldOf Try.prog 7 1 = some (1, 3) := by kernel_rfl
theorem pl_7_1 : placesA Try.prog 7 1 = some (1, 1) := by kernel_rfl
theorem fo_7_2 : fieldOf Try.prog 7 2 = some (2, 4) := by kernel_rfl
theorem pl_7_2 : placesA Try.prog 7 2 = some (2, 1) := by kernel_rfl
theorem fo_7_3 : fieldOf Try.prog 7 3 = some (3, 6) := by kernel_rfl
theorem pl_7_3 : placesA Try.prog 7 3 = some (3, 1) := by kernel_rfl
theorem ap_7 : appOk Try.prog 7 = true := by kernel_rfl
theorem pd_7 : placed Try.prog 7 = true := by kernel_rfl
theorem by_7 : byOf Try.prog 7 = 24 := by kernel_rfl
theorem sz_8 : szOf Try.prog 8 = 4 := by kernel_rfl
theorem so_8 : szO Try.prog 8 = some 4 := by kernel_rfl
theorem ag_8 : isAg Try.prog 8 = some true := by kernel_rfl
theorem sh_8 : shapes Try.prog 10 8 = [.int .i64, .int .i64, .bool, .int .u8] := by kernel_rfl
theorem ze_8 : zeroC Try.prog 8 = some [.v (.int .i64 0), .v (.int .i64 0), .v (.bool false), .v (.int .u8 0)] := by kernel_rfl
theorem ii_8 : isIface Try.prog 8 = some false := by kernel_rfl
theorem zv_8 : zeroV Try.prog 8 = some (.agg [.v (.int .i64 0), .v (.int .i64 0), .v (.bool false), .v (.int .u8 0)]) := by kernel_rfl
theorem fo_8_0 : fieldOf Try.prog 8 0 = some (0, 2) := by kernel_rfl
theorem pl_8_0 : placesA Try.prog 8 0 = some (0, 1) := by kernel_rfl
theorem fo_8_1 : fieldOf Try.prog 8 1 = some (1, 3) := by kernel_rfl
theorem pl_8_1 : placesA Try.prog 8 1 = some (1, 1) := by kernel_rfl
theorem fo_8_2 : fieldOf Try.prog 8 2 = some (2, 4) := by kernel_rfl
theorem pl_8_2 : placesA Try.prog 8 2 = some (2, 1) := by kernel_rfl
theorem fo_8_3 : fieldOf Try.prog 8 3 = some (3, 6) := by kernel_rfl
theorem pl_8_3 : placesA Try.prog 8 3 = some (3, 1) := by kernel_rfl
theorem ap_8 : appOk Try.prog 8 = true := by kernel_rfl
theorem pd_8 : placed Try.prog 8 = true := by kernel_rfl
theorem by_8 : byOf Try.prog 8 = 24 := by kernel_rfl
theorem sz_9 : szOf Try.prog 9 = 1 := by kernel_rfl
theorem so_9 : szO Try.prog 9 = some 1 := by kernel_rfl
theorem ag_9 : isAg Try.prog 9 = some false := by kernel_rfl
theorem sh_9 : shapes Try.prog 10 9 = [.str] := by kernel_rfl
theorem ze_9 : zeroC Try.prog 9 = some [.v (.string ⟨#[]⟩)] := by kernel_rfl
theorem ii_9 : isIface Try.prog 9 = some false := by kernel_rfl
theorem zv_9 : zeroV Try.prog 9 = some (.v (.string ⟨#[]⟩)) := by kernel_rfl
theorem un_9 : Try.prog.underlying 9 = some .string := by kernel_rfl
theorem ap_9 : appOk Try.prog 9 = true := by kernel_rfl
theorem by_9 : byOf Try.prog 9 = 16 := by kernel_rfl
theorem sz_10 : szOf Try.prog 10 = 1 := by kernel_rfl
theorem so_10 : szO Try.prog 10 = some 1 := by kernel_rfl
theorem ag_10 : isAg Try.prog 10 = some false := by kernel_rfl
theorem sh_10 : shapes Try.prog 10 10 = [.str] := by kernel_rfl
theorem ze_10 : zeroC Try.prog 10 = some [.v (.string ⟨#[]⟩)] := by kernel_rfl
theorem ii_10 : isIface Try.prog 10 = some false := by kernel_rfl
theorem zv_10 : zeroV Try.prog 10 = some (.v (.string ⟨#[]⟩)) := by kernel_rfl
theorem un_10 : Try.prog.underlying 10 = some .string := by kernel_rfl
theorem ap_10 : appOk Try.prog 10 = true := by kernel_rfl
theorem by_10 : byOf Try.prog 10 = 16 := by kernel_rfl
theorem sz_11 : szOf Try.prog 11 = 1 := by kernel_rfl
theorem so_11 : szO Try.prog 11 = some 1 := by kernel_rfl
theorem ag_11 : isAg Try.prog 11 = some false := by kernel_rfl
theorem sh_11 : shapes Try.prog 10 11 = [.str] := by kernel_rfl
theorem ze_11 : zeroC Try.prog 11 = some [.v (.string ⟨#[]⟩)] := by kernel_rfl
theorem ii_11 : isIface Try.prog 11 = some false := by kernel_rfl
theorem zv_11 : zeroV Try.prog 11 = some (.v (.string ⟨#[]⟩)) := by kernel_rfl
theorem un_11 : Try.prog.underlying 11 = some .string := by kernel_rfl
theorem ap_11 : appOk Try.prog 11 = true := by kernel_rfl
theorem by_11 : byOf Try.prog 11 = 16 := by kernel_rfl
theorem sz_12 : szOf Try.prog 12 = 1 := by kernel_rfl
theorem so_12 : szO Try.prog 12 = some 1 := by kernel_rfl
theorem ag_12 : isAg Try.prog 12 = some false := by kernel_rfl
theorem sh_12 : shapes Try.prog 10 12 = [.int .u64] := by kernel_rfl
theorem ze_12 : zeroC Try.prog 12 = some [.v (.int .u64 0)] := by kernel_rfl
theorem ii_12 : isIface Try.prog 12 = some false := by kernel_rfl
theorem zv_12 : zeroV Try.prog 12 = some (.v (.int .u64 0)) := by kernel_rfl
theorem un_12 : Try.prog.underlying 12 = some (.int .u64) := by kernel_rfl
theorem ap_12 : appOk Try.prog 12 = true := by kernel_rfl
theorem by_12 : byOf Try.prog 12 = 8 := by kernel_rfl
theorem sz_13 : szOf Try.prog 13 = 2 := by kernel_rfl
theorem so_13 : szO Try.prog 13 = some 2 := by kernel_rfl
theorem ag_13 : isAg Try.prog 13 = some true := by kernel_rfl
theorem sh_13 : shapes Try.prog 10 13 = [.str, .int .u64] := by kernel_rfl
theorem ze_13 : zeroC Try.prog 13 = some [.v (.string ⟨#[]⟩), .v (.int .u64 0)] := by kernel_rfl
theorem ii_13 : isIface Try.prog 13 = some false := by kernel_rfl
theorem zv_13 : zeroV Try.prog 13 = some (.agg [.v (.string ⟨#[]⟩), .v (.int .u64 0)]) := by kernel_rfl
theorem fo_13_0 : fieldOf Try.prog 13 0 = some (0, 9) := by kernel_rfl
theorem pl_13_0 : placesA Try.prog 13 0 = some (0, 1) := by kernel_rfl
theorem fo_13_1 : fieldOf Try.prog 13 1 = some (1, 12) := by kernel_rfl
theorem pl_13_1 : placesA Try.prog 13 1 = some (1, 1) := by kernel_rfl
theorem ap_13 : appOk Try.prog 13 = true := by kernel_rfl
theorem pd_13 : placed Try.prog 13 = true := by kernel_rfl
theorem by_13 : byOf Try.prog 13 = 24 := by kernel_rfl
theorem sz_14 : szOf Try.prog 14 = 2 := by kernel_rfl
theorem so_14 : szO Try.prog 14 = some 2 := by kernel_rfl
theorem ag_14 : isAg Try.prog 14 = some true := by kernel_rfl
theorem sh_14 : shapes Try.prog 10 14 = [.str, .int .u64] := by kernel_rfl
theorem ze_14 : zeroC Try.prog 14 = some [.v (.string ⟨#[]⟩), .v (.int .u64 0)] := by kernel_rfl
theorem ii_14 : isIface Try.prog 14 = some false := by kernel_rfl
theorem zv_14 : zeroV Try.prog 14 = some (.agg [.v (.string ⟨#[]⟩), .v (.int .u64 0)]) := by kernel_rfl
theorem fo_14_0 : fieldOf Try.prog 14 0 = some (0, 9) := by kernel_rfl
theorem pl_14_0 : placesA Try.prog 14 0 = some (0, 1) := by kernel_rfl
theorem fo_14_1 : fieldOf Try.prog 14 1 = some (1, 12) := by kernel_rfl
theorem pl_14_1 : placesA Try.prog 14 1 = some (1, 1) := by kernel_rfl
theorem ap_14 : appOk Try.prog 14 = true := by kernel_rfl
theorem pd_14 : placed Try.prog 14 = true := by kernel_rfl
theorem by_14 : byOf Try.prog 14 = 24 := by kernel_rfl
theorem sz_15 : szOf Try.prog 15 = 1 := by kernel_rfl
theorem so_15 : szO Try.prog 15 = some 1 := by kernel_rfl
theorem ag_15 : isAg Try.prog 15 = some false := by kernel_rfl
theorem ze_15 : zeroC Try.prog 15 = some [.v (.pointer none)] := by kernel_rfl
theorem ii_15 : isIface Try.prog 15 = some false := by kernel_rfl
theorem pt_15 : ptrOf Try.prog 15 = some 95 := by kernel_rfl
theorem ap_15 : appOk Try.prog 15 = true := by kernel_rfl
theorem by_15 : byOf Try.prog 15 = 8 := by kernel_rfl
theorem sz_16 : szOf Try.prog 16 = 1 := by kernel_rfl
theorem so_16 : szO Try.prog 16 = some 1 := by kernel_rfl
theorem ag_16 : isAg Try.prog 16 = some false := by kernel_rfl
theorem ze_16 : zeroC Try.prog 16 = some [.v (.pointer none)] := by kernel_rfl
theorem ii_16 : isIface Try.prog 16 = some false := by kernel_rfl
theorem pt_16 : ptrOf Try.prog 16 = some 98 := by kernel_rfl
theorem ap_16 : appOk Try.prog 16 = true := by kernel_rfl
theorem by_16 : byOf Try.prog 16 = 8 := by kernel_rfl
theorem sz_17 : szOf Try.prog 17 = 1 := by kernel_rfl
theorem so_17 : szO Try.prog 17 = some 1 := by kernel_rfl
theorem ag_17 : isAg Try.prog 17 = some false := by kernel_rfl
theorem ze_17 : zeroC Try.prog 17 = some [.v (.pointer none)] := by kernel_rfl
theorem ii_17 : isIface Try.prog 17 = some false := by kernel_rfl
theorem pt_17 : ptrOf Try.prog 17 = some 106 := by kernel_rfl
theorem ap_17 : appOk Try.prog 17 = true := by kernel_rfl
theorem by_17 : byOf Try.prog 17 = 8 := by kernel_rfl
theorem sz_18 : szOf Try.prog 18 = 1 := by kernel_rfl
theorem so_18 : szO Try.prog 18 = some 1 := by kernel_rfl
theorem ag_18 : isAg Try.prog 18 = some true := by kernel_rfl
theorem ze_18 : zeroC Try.prog 18 = some [.v (.pointer none)] := by kernel_rfl
theorem ii_18 : isIface Try.prog 18 = some false := by kernel_rfl
theorem zv_18 : zeroV Try.prog 18 = some (.agg [.v (.pointer none)]) := by kernel_rfl
theorem fo_18_0 : fieldOf Try.prog 18 0 = some (0, 17) := by kernel_rfl
theorem pl_18_0 : placesA Try.prog 18 0 = some (0, 1) := by kernel_rfl
theorem ap_18 : appOk Try.prog 18 = true := by kernel_rfl
theorem pd_18 : placed Try.prog 18 = true := by kernel_rfl
theorem by_18 : byOf Try.prog 18 = 8 := by kernel_rfl
theorem sz_19 : szOf Try.prog 19 = 1 := by kernel_rfl
theorem so_19 : szO Try.prog 19 = some 1 := by kernel_rfl
theorem ag_19 : isAg Try.prog 19 = some true := by kernel_rfl
theorem ze_19 : zeroC Try.prog 19 = some [.v (.pointer none)] := by kernel_rfl
theorem ii_19 : isIface Try.prog 19 = some false := by kernel_rfl
theorem zv_19 : zeroV Try.prog 19 = some (.agg [.v (.pointer none)]) := by kernel_rfl
theorem fo_19_0 : fieldOf Try.prog 19 0 = some (0, 17) := by kernel_rfl
theorem pl_19_0 : placesA Try.prog 19 0 = some (0, 1) := by kernel_rfl
theorem ap_19 : appOk Try.prog 19 = true := by kernel_rfl
theorem pd_19 : placed Try.prog 19 = true := by kernel_rfl
theorem by_19 : byOf Try.prog 19 = 8 := by kernel_rfl
theorem sz_21 : szOf Try.prog 21 = 1 := by kernel_rfl
theorem so_21 : szO Try.prog 21 = some 1 := by kernel_rfl
theorem ag_21 : isAg Try.prog 21 = some false := by kernel_rfl
theorem sh_21 : shapes Try.prog 10 21 = [.int .i32] := by kernel_rfl
theorem ze_21 : zeroC Try.prog 21 = some [.v (.int .i32 0)] := by kernel_rfl
theorem ii_21 : isIface Try.prog 21 = some false := by kernel_rfl
theorem zv_21 : zeroV Try.prog 21 = some (.v (.int .i32 0)) := by kernel_rfl
theorem un_21 : Try.prog.underlying 21 = some (.int .i32) := by kernel_rfl
theorem ap_21 : appOk Try.prog 21 = true := by kernel_rfl
theorem by_21 : byOf Try.prog 21 = 4 := by kernel_rfl
theorem sz_22 : szOf Try.prog 22 = 1 := by kernel_rfl
theorem so_22 : szO Try.prog 22 = some 1 := by kernel_rfl
theorem ag_22 : isAg Try.prog 22 = some false := by kernel_rfl
theorem sh_22 : shapes Try.prog 10 22 = [.sl 2] := by kernel_rfl
theorem ze_22 : zeroC Try.prog 22 = some [.v (.slice none 0 0)] := by kernel_rfl
theorem ii_22 : isIface Try.prog 22 = some false := by kernel_rfl
theorem el_22 : elemOfS Try.prog 22 = some 40 := by kernel_rfl
theorem un_22 : Try.prog.underlying 22 = some (.slice 40) := by kernel_rfl
theorem ap_22 : appOk Try.prog 22 = true := by kernel_rfl
theorem by_22 : byOf Try.prog 22 = 24 := by kernel_rfl
theorem sz_23 : szOf Try.prog 23 = 6 := by kernel_rfl
theorem so_23 : szO Try.prog 23 = some 6 := by kernel_rfl
theorem ag_23 : isAg Try.prog 23 = some true := by kernel_rfl
theorem sh_23 : shapes Try.prog 10 23 = [.str, .str, .int .i64, .int .i64, .str, .sl 2] := by kernel_rfl
theorem ze_23 : zeroC Try.prog 23 = some [.v (.string ⟨#[]⟩), .v (.string ⟨#[]⟩), .v (.int .i64 0), .v (.int .i64 0), .v (.string ⟨#[]⟩), .v (.slice none 0 0)] := by kernel_rfl
theorem ii_23 : isIface Try.prog 23 = some false := by kernel_rfl
theorem zv_23 : zeroV Try.prog 23 = some (.agg [.v (.string ⟨#[]⟩), .v (.string ⟨#[]⟩), .v (.int .i64 0), .v (.int .i64 0), .v (.string ⟨#[]⟩), .v (.slice none 0 0)]) := by kernel_rfl
theorem fo_23_0 : fieldOf Try.prog 23 0 = some (0, 9) := by kernel_rfl
theorem pl_23_0 : placesA Try.prog 23 0 = some (0, 1) := by kernel_rfl
theorem fo_23_1 : fieldOf Try.prog 23 1 = some (1, 9) := by kernel_rfl
theorem pl_23_1 : placesA Try.prog 23 1 = some (1, 1) := by kernel_rfl
theorem fo_23_2 : fieldOf Try.prog 23 2 = some (2, 3) := by kernel_rfl
theorem pl_23_2 : placesA Try.prog 23 2 = some (2, 1) := by kernel_rfl
theorem fo_23_3 : fieldOf Try.prog 23 3 = some (3, 3) := by kernel_rfl
theorem pl_23_3 : placesA Try.prog 23 3 = some (3, 1) := by kernel_rfl
theorem fo_23_4 : fieldOf Try.prog 23 4 = some (4, 9) := by kernel_rfl
theorem pl_23_4 : placesA Try.prog 23 4 = some (4, 1) := by kernel_rfl
theorem fo_23_5 : fieldOf Try.prog 23 5 = some (5, 22) := by kernel_rfl
theorem pl_23_5 : placesA Try.prog 23 5 = some (5, 1) := by kernel_rfl
theorem ap_23 : appOk Try.prog 23 = true := by kernel_rfl
theorem pd_23 : placed Try.prog 23 = true := by kernel_rfl
theorem by_23 : byOf Try.prog 23 = 88 := by kernel_rfl
theorem sz_24 : szOf Try.prog 24 = 6 := by kernel_rfl
theorem so_24 : szO Try.prog 24 = some 6 := by kernel_rfl
theorem ag_24 : isAg Try.prog 24 = some true := by kernel_rfl
theorem sh_24 : shapes Try.prog 10 24 = [.str, .str, .int .i64, .int .i64, .str, .sl 2] := by kernel_rfl
theorem ze_24 : zeroC Try.prog 24 = some [.v (.string ⟨#[]⟩), .v (.string ⟨#[]⟩), .v (.int .i64 0), .v (.int .i64 0), .v (.string ⟨#[]⟩), .v (.slice none 0 0)] := by kernel_rfl
theorem ii_24 : isIface Try.prog 24 = some false := by kernel_rfl
theorem zv_24 : zeroV Try.prog 24 = some (.agg [.v (.string ⟨#[]⟩), .v (.string ⟨#[]⟩), .v (.int .i64 0), .v (.int .i64 0), .v (.string ⟨#[]⟩), .v (.slice none 0 0)]) := by kernel_rfl
theorem fo_24_0 : fieldOf Try.prog 24 0 = some (0, 9) := by kernel_rfl
theorem pl_24_0 : placesA Try.prog 24 0 = some (0, 1) := by kernel_rfl
theorem fo_24_1 : fieldOf Try.prog 24 1 = some (1, 9) := by kernel_rfl
theorem pl_24_1 : placesA Try.prog 24 1 = some (1, 1) := by kernel_rfl
theorem fo_24_2 : fieldOf Try.prog 24 2 = some (2, 3) := by kernel_rfl
theorem pl_24_2 : placesA Try.prog 24 2 = some (2, 1) := by kernel_rfl
theorem fo_24_3 : fieldOf Try.prog 24 3 = some (3, 3) := by kernel_rfl
theorem pl_24_3 : placesA Try.prog 24 3 = some (3, 1) := by kernel_rfl
theorem fo_24_4 : fieldOf Try.prog 24 4 = some (4, 9) := by kernel_rfl
theorem pl_24_4 : placesA Try.prog 24 4 = some (4, 1) := by kernel_rfl
theorem fo_24_5 : fieldOf Try.prog 24 5 = some (5, 22) := by kernel_rfl
theorem pl_24_5 : placesA Try.prog 24 5 = some (5, 1) := by kernel_rfl
theorem ap_24 : appOk Try.prog 24 = true := by kernel_rfl
theorem pd_24 : placed Try.prog 24 = true := by kernel_rfl
theorem by_24 : byOf Try.prog 24 = 88 := by kernel_rfl
theorem sz_25 : szOf Try.prog 25 = 5 := by kernel_rfl
theorem so_25 : szO Try.prog 25 = some 5 := by kernel_rfl
theorem ag_25 : isAg Try.prog 25 = some true := by kernel_rfl
theorem sh_25 : shapes Try.prog 10 25 = [.int .i64, .int .i64, .int .i64, .int .i64, .int .i64] := by kernel_rfl
theorem ze_25 : zeroC Try.prog 25 = some [.v (.int .i64 0), .v (.int .i64 0), .v (.int .i64 0), .v (.int .i64 0), .v (.int .i64 0)] := by kernel_rfl
theorem ii_25 : isIface Try.prog 25 = some false := by kernel_rfl
theorem ar_25 : arrOf Try.prog 25 = some (5, 3) := by kernel_rfl
theorem pl_25 (i : Nat) : placesA Try.prog 25 i = some (i * szOf Try.prog 3, szOf Try.prog 3) := by kernel_rfl
theorem ap_25 : appOk Try.prog 25 = true := by kernel_rfl
theorem pd_25 : placed Try.prog 25 = true := by kernel_rfl
theorem by_25 : byOf Try.prog 25 = 40 := by kernel_rfl
theorem sz_26 : szOf Try.prog 26 = 1 := by kernel_rfl
theorem so_26 : szO Try.prog 26 = some 1 := by kernel_rfl
theorem ag_26 : isAg Try.prog 26 = some false := by kernel_rfl
theorem sh_26 : shapes Try.prog 10 26 = [.sl 2] := by kernel_rfl
theorem ze_26 : zeroC Try.prog 26 = some [.v (.slice none 0 0)] := by kernel_rfl
theorem ii_26 : isIface Try.prog 26 = some false := by kernel_rfl
theorem el_26 : elemOfS Try.prog 26 = some 35 := by kernel_rfl
theorem un_26 : Try.prog.underlying 26 = some (.slice 35) := by kernel_rfl
theorem ap_26 : appOk Try.prog 26 = true := by kernel_rfl
theorem by_26 : byOf Try.prog 26 = 24 := by kernel_rfl
theorem sz_27 : szOf Try.prog 27 = 1 := by kernel_rfl
theorem so_27 : szO Try.prog 27 = some 1 := by kernel_rfl
theorem ag_27 : isAg Try.prog 27 = some false := by kernel_rfl
theorem sh_27 : shapes Try.prog 10 27 = [.sl 1] := by kernel_rfl
theorem ze_27 : zeroC Try.prog 27 = some [.v (.slice none 0 0)] := by kernel_rfl
theorem ii_27 : isIface Try.prog 27 = some false := by kernel_rfl
theorem el_27 : elemOfS Try.prog 27 = some 9 := by kernel_rfl
theorem un_27 : Try.prog.underlying 27 = some (.slice 9) := by kernel_rfl
theorem ap_27 : appOk Try.prog 27 = true := by kernel_rfl
theorem by_27 : byOf Try.prog 27 = 24 := by kernel_rfl
theorem sz_30 : szOf Try.prog 30 = 1 := by kernel_rfl
theorem so_30 : szO Try.prog 30 = some 1 := by kernel_rfl
theorem ag_30 : isAg Try.prog 30 = some false := by kernel_rfl
theorem sh_30 : shapes Try.prog 10 30 = [.sl 6] := by kernel_rfl
theorem ze_30 : zeroC Try.prog 30 = some [.v (.slice none 0 0)] := by kernel_rfl
theorem ii_30 : isIface Try.prog 30 = some false := by kernel_rfl
theorem el_30 : elemOfS Try.prog 30 = some 24 := by kernel_rfl
theorem un_30 : Try.prog.underlying 30 = some (.slice 24) := by kernel_rfl
theorem ap_30 : appOk Try.prog 30 = true := by kernel_rfl
theorem by_30 : byOf Try.prog 30 = 24 := by kernel_rfl
theorem sz_31 : szOf Try.prog 31 = 1 := by kernel_rfl
theorem so_31 : szO Try.prog 31 = some 1 := by kernel_rfl
theorem ag_31 : isAg Try.prog 31 = some false := by kernel_rfl
theorem sh_31 : shapes Try.prog 10 31 = [.int .i64] := by kernel_rfl
theorem ze_31 : zeroC Try.prog 31 = some [.v (.int .i64 0)] := by kernel_rfl
theorem ii_31 : isIface Try.prog 31 = some false := by kernel_rfl
theorem zv_31 : zeroV Try.prog 31 = some (.v (.int .i64 0)) := by kernel_rfl
theorem un_31 : Try.prog.underlying 31 = some (.int .i64) := by kernel_rfl
theorem ap_31 : appOk Try.prog 31 = true := by kernel_rfl
theorem by_31 : byOf Try.prog 31 = 8 := by kernel_rfl
theorem sz_35 : szOf Try.prog 35 = 2 := by kernel_rfl
theorem so_35 : szO Try.prog 35 = some 2 := by kernel_rfl
theorem ag_35 : isAg Try.prog 35 = some true := by kernel_rfl
theorem sh_35 : shapes Try.prog 10 35 = [.int .i64, .int .i64] := by kernel_rfl
theorem ze_35 : zeroC Try.prog 35 = some [.v (.int .i64 0), .v (.int .i64 0)] := by kernel_rfl
theorem ii_35 : isIface Try.prog 35 = some false := by kernel_rfl
theorem ar_35 : arrOf Try.prog 35 = some (2, 3) := by kernel_rfl
theorem pl_35 (i : Nat) : placesA Try.prog 35 i = some (i * szOf Try.prog 3, szOf Try.prog 3) := by kernel_rfl
theorem ap_35 : appOk Try.prog 35 = true := by kernel_rfl
theorem pd_35 : placed Try.prog 35 = true := by kernel_rfl
theorem by_35 : byOf Try.prog 35 = 16 := by kernel_rfl
theorem sz_39 : szOf Try.prog 39 = 2 := by kernel_rfl
theorem so_39 : szO Try.prog 39 = some 2 := by kernel_rfl
theorem ag_39 : isAg Try.prog 39 = some true := by kernel_rfl
theorem sh_39 : shapes Try.prog 10 39 = [.int .i64, .str] := by kernel_rfl
theorem ze_39 : zeroC Try.prog 39 = some [.v (.int .i64 0), .v (.string ⟨#[]⟩)] := by kernel_rfl
theorem ii_39 : isIface Try.prog 39 = some false := by kernel_rfl
theorem zv_39 : zeroV Try.prog 39 = some (.agg [.v (.int .i64 0), .v (.string ⟨#[]⟩)]) := by kernel_rfl
theorem fs_39 : flatSh Try.prog 39 = some [.int .i64, .str] := by kernel_rfl
theorem fo_39_0 : fieldOf Try.prog 39 0 = some (0, 3) := by kernel_rfl
theorem pl_39_0 : placesA Try.prog 39 0 = some (0, 1) := by kernel_rfl
theorem fo_39_1 : fieldOf Try.prog 39 1 = some (1, 9) := by kernel_rfl
theorem pl_39_1 : placesA Try.prog 39 1 = some (1, 1) := by kernel_rfl
theorem ap_39 : appOk Try.prog 39 = true := by kernel_rfl
theorem pd_39 : placed Try.prog 39 = true := by kernel_rfl
theorem by_39 : byOf Try.prog 39 = 24 := by kernel_rfl
theorem sz_40 : szOf Try.prog 40 = 2 := by kernel_rfl
theorem so_40 : szO Try.prog 40 = some 2 := by kernel_rfl
theorem ag_40 : isAg Try.prog 40 = some true := by kernel_rfl
theorem sh_40 : shapes Try.prog 10 40 = [.int .i64, .str] := by kernel_rfl
theorem ze_40 : zeroC Try.prog 40 = some [.v (.int .i64 0), .v (.string ⟨#[]⟩)] := by kernel_rfl
theorem ii_40 : isIface Try.prog 40 = some false := by kernel_rfl
theorem zv_40 : zeroV Try.prog 40 = some (.agg [.v (.int .i64 0), .v (.string ⟨#[]⟩)]) := by kernel_rfl
theorem fs_40 : flatSh Try.prog 40 = some [.int .i64, .str] := by kernel_rfl
theorem fo_40_0 : fieldOf Try.prog 40 0 = some (0, 3) := by kernel_rfl
theorem pl_40_0 : placesA Try.prog 40 0 = some (0, 1) := by kernel_rfl
theorem fo_40_1 : fieldOf Try.prog 40 1 = some (1, 9) := by kernel_rfl
theorem pl_40_1 : placesA Try.prog 40 1 = some (1, 1) := by kernel_rfl
theorem ap_40 : appOk Try.prog 40 = true := by kernel_rfl
theorem pd_40 : placed Try.prog 40 = true := by kernel_rfl
theorem by_40 : byOf Try.prog 40 = 24 := by kernel_rfl
theorem sz_48 : szOf Try.prog 48 = 1 := by kernel_rfl
theorem so_48 : szO Try.prog 48 = some 1 := by kernel_rfl
theorem ag_48 : isAg Try.prog 48 = some false := by kernel_rfl
theorem sh_48 : shapes Try.prog 10 48 = [.int .i64] := by kernel_rfl
theorem ze_48 : zeroC Try.prog 48 = some [.v (.int .i64 0)] := by kernel_rfl
theorem ii_48 : isIface Try.prog 48 = some false := by kernel_rfl
theorem zv_48 : zeroV Try.prog 48 = some (.v (.int .i64 0)) := by kernel_rfl
theorem un_48 : Try.prog.underlying 48 = some (.int .i64) := by kernel_rfl
theorem ap_48 : appOk Try.prog 48 = true := by kernel_rfl
theorem by_48 : byOf Try.prog 48 = 8 := by kernel_rfl
theorem sz_49 : szOf Try.prog 49 = 1 := by kernel_rfl
theorem so_49 : szO Try.prog 49 = some 1 := by kernel_rfl
theorem ag_49 : isAg Try.prog 49 = some false := by kernel_rfl
theorem sh_49 : shapes Try.prog 10 49 = [.str] := by kernel_rfl
theorem ze_49 : zeroC Try.prog 49 = some [.v (.string ⟨#[]⟩)] := by kernel_rfl
theorem ii_49 : isIface Try.prog 49 = some false := by kernel_rfl
theorem zv_49 : zeroV Try.prog 49 = some (.v (.string ⟨#[]⟩)) := by kernel_rfl
theorem un_49 : Try.prog.underlying 49 = some .string := by kernel_rfl
theorem ap_49 : appOk Try.prog 49 = true := by kernel_rfl
theorem by_49 : byOf Try.prog 49 = 16 := by kernel_rfl
theorem sz_50 : szOf Try.prog 50 = 0 := by kernel_rfl
theorem so_50 : szO Try.prog 50 = some 0 := by kernel_rfl
theorem ag_50 : isAg Try.prog 50 = some true := by kernel_rfl
theorem sh_50 : shapes Try.prog 10 50 = [] := by kernel_rfl
theorem ze_50 : zeroC Try.prog 50 = some [] := by kernel_rfl
theorem ii_50 : isIface Try.prog 50 = some false := by kernel_rfl
theorem zv_50 : zeroV Try.prog 50 = some (.agg []) := by kernel_rfl
theorem fs_50 : flatSh Try.prog 50 = some [] := by kernel_rfl
theorem pd_50 : placed Try.prog 50 = true := by kernel_rfl
theorem by_50 : byOf Try.prog 50 = 0 := by kernel_rfl
theorem sz_51 : szOf Try.prog 51 = 0 := by kernel_rfl
theorem so_51 : szO Try.prog 51 = some 0 := by kernel_rfl
theorem ag_51 : isAg Try.prog 51 = some true := by kernel_rfl
theorem sh_51 : shapes Try.prog 10 51 = [] := by kernel_rfl
theorem ze_51 : zeroC Try.prog 51 = some [] := by kernel_rfl
theorem ii_51 : isIface Try.prog 51 = some false := by kernel_rfl
theorem zv_51 : zeroV Try.prog 51 = some (.agg []) := by kernel_rfl
theorem fs_51 : flatSh Try.prog 51 = some [] := by kernel_rfl
theorem pd_51 : placed Try.prog 51 = true := by kernel_rfl
theorem by_51 : byOf Try.prog 51 = 0 := by kernel_rfl
theorem sz_64 : szOf Try.prog 64 = 0 := by kernel_rfl
theorem so_64 : szO Try.prog 64 = some 0 := by kernel_rfl
theorem ag_64 : isAg Try.prog 64 = some true := by kernel_rfl
theorem sh_64 : shapes Try.prog 10 64 = [] := by kernel_rfl
theorem ze_64 : zeroC Try.prog 64 = some [] := by kernel_rfl
theorem ii_64 : isIface Try.prog 64 = some false := by kernel_rfl
theorem zv_64 : zeroV Try.prog 64 = some (.agg []) := by kernel_rfl
theorem fs_64 : flatSh Try.prog 64 = some [] := by kernel_rfl
theorem pd_64 : placed Try.prog 64 = true := by kernel_rfl
theorem by_64 : byOf Try.prog 64 = 0 := by kernel_rfl
theorem sz_67 : szOf Try.prog 67 = 1 := by kernel_rfl
theorem so_67 : szO Try.prog 67 = some 1 := by kernel_rfl
theorem ag_67 : isAg Try.prog 67 = some false := by kernel_rfl
theorem sh_67 : shapes Try.prog 10 67 = [.sl 1] := by kernel_rfl
theorem ze_67 : zeroC Try.prog 67 = some [.v (.slice none 0 0)] := by kernel_rfl
theorem ii_67 : isIface Try.prog 67 = some false := by kernel_rfl
theorem el_67 : elemOfS Try.prog 67 = some 5 := by kernel_rfl
theorem un_67 : Try.prog.underlying 67 = some (.slice 5) := by kernel_rfl
theorem ap_67 : appOk Try.prog 67 = true := by kernel_rfl
theorem by_67 : byOf Try.prog 67 = 24 := by kernel_rfl
theorem sz_73 : szOf Try.prog 73 = 1 := by kernel_rfl
theorem so_73 : szO Try.prog 73 = some 1 := by kernel_rfl
theorem ag_73 : isAg Try.prog 73 = some false := by kernel_rfl
theorem ze_73 : zeroC Try.prog 73 = some [.v (.pointer none)] := by kernel_rfl
theorem ii_73 : isIface Try.prog 73 = some false := by kernel_rfl
theorem pt_73 : ptrOf Try.prog 73 = some 75 := by kernel_rfl
theorem ap_73 : appOk Try.prog 73 = true := by kernel_rfl
theorem by_73 : byOf Try.prog 73 = 8 := by kernel_rfl
theorem sz_74 : szOf Try.prog 74 = 2 := by kernel_rfl
theorem so_74 : szO Try.prog 74 = some 2 := by kernel_rfl
theorem ag_74 : isAg Try.prog 74 = some true := by kernel_rfl
theorem ze_74 : zeroC Try.prog 74 = some [.v (.pointer none), .v (.slice none 0 0)] := by kernel_rfl
theorem ii_74 : isIface Try.prog 74 = some false := by kernel_rfl
theorem zv_74 : zeroV Try.prog 74 = some (.agg [.v (.pointer none), .v (.slice none 0 0)]) := by kernel_rfl
theorem fo_74_0 : fieldOf Try.prog 74 0 = some (0, 73) := by kernel_rfl
theorem pl_74_0 : placesA Try.prog 74 0 = some (0, 1) := by kernel_rfl
theorem fo_74_1 : fieldOf Try.prog 74 1 = some (1, 67) := by kernel_rfl
theorem pl_74_1 : placesA Try.prog 74 1 = some (1, 1) := by kernel_rfl
theorem ap_74 : appOk Try.prog 74 = true := by kernel_rfl
theorem pd_74 : placed Try.prog 74 = true := by kernel_rfl
theorem by_74 : byOf Try.prog 74 = 32 := by kernel_rfl
theorem sz_75 : szOf Try.prog 75 = 2 := by kernel_rfl
theorem so_75 : szO Try.prog 75 = some 2 := by kernel_rfl
theorem ag_75 : isAg Try.prog 75 = some true := by kernel_rfl
theorem ze_75 : zeroC Try.prog 75 = some [.v (.pointer none), .v (.slice none 0 0)] := by kernel_rfl
theorem ii_75 : isIface Try.prog 75 = some false := by kernel_rfl
theorem zv_75 : zeroV Try.prog 75 = some (.agg [.v (.pointer none), .v (.slice none 0 0)]) := by kernel_rfl
theorem fo_75_0 : fieldOf Try.prog 75 0 = some (0, 73) := by kernel_rfl
theorem pl_75_0 : placesA Try.prog 75 0 = some (0, 1) := by kernel_rfl
theorem fo_75_1 : fieldOf Try.prog 75 1 = some (1, 67) := by kernel_rfl
theorem pl_75_1 : placesA Try.prog 75 1 = some (1, 1) := by kernel_rfl
theorem ap_75 : appOk Try.prog 75 = true := by kernel_rfl
theorem pd_75 : placed Try.prog 75 = true := by kernel_rfl
theorem by_75 : byOf Try.prog 75 = 32 := by kernel_rfl
theorem sz_83 : szOf Try.prog 83 = 1 := by kernel_rfl
theorem so_83 : szO Try.prog 83 = some 1 := by kernel_rfl
theorem ag_83 : isAg Try.prog 83 = some false := by kernel_rfl
theorem sh_83 : shapes Try.prog 10 83 = [.int .u64] := by kernel_rfl
theorem ze_83 : zeroC Try.prog 83 = some [.v (.int .u64 0)] := by kernel_rfl
theorem ii_83 : isIface Try.prog 83 = some false := by kernel_rfl
theorem zv_83 : zeroV Try.prog 83 = some (.v (.int .u64 0)) := by kernel_rfl
theorem un_83 : Try.prog.underlying 83 = some (.int .u64) := by kernel_rfl
theorem ap_83 : appOk Try.prog 83 = true := by kernel_rfl
theorem by_83 : byOf Try.prog 83 = 8 := by kernel_rfl
theorem sz_91 : szOf Try.prog 91 = 1 := by kernel_rfl
theorem so_91 : szO Try.prog 91 = some 1 := by kernel_rfl
theorem ag_91 : isAg Try.prog 91 = some false := by kernel_rfl
theorem ze_91 : zeroC Try.prog 91 = some [.v (.pointer none)] := by kernel_rfl
theorem ii_91 : isIface Try.prog 91 = some false := by kernel_rfl
theorem pt_91 : ptrOf Try.prog 91 = some 5 := by kernel_rfl
theorem ap_91 : appOk Try.prog 91 = true := by kernel_rfl
theorem by_91 : byOf Try.prog 91 = 8 := by kernel_rfl
theorem sz_94 : szOf Try.prog 94 = 4 := by kernel_rfl
theorem so_94 : szO Try.prog 94 = some 4 := by kernel_rfl
theorem ag_94 : isAg Try.prog 94 = some true := by kernel_rfl
theorem ze_94 : zeroC Try.prog 94 = some [.v (.pointer none), .v (.pointer none), .v (.pointer none), .v (.string ⟨#[]⟩)] := by kernel_rfl
theorem ii_94 : isIface Try.prog 94 = some false := by kernel_rfl
theorem zv_94 : zeroV Try.prog 94 = some (.agg [.v (.pointer none), .v (.pointer none), .v (.pointer none), .v (.string ⟨#[]⟩)]) := by kernel_rfl
theorem fo_94_0 : fieldOf Try.prog 94 0 = some (0, 17) := by kernel_rfl
theorem pl_94_0 : placesA Try.prog 94 0 = some (0, 1) := by kernel_rfl
theorem fo_94_1 : fieldOf Try.prog 94 1 = some (1, 17) := by kernel_rfl
theorem pl_94_1 : placesA Try.prog 94 1 = some (1, 1) := by kernel_rfl
theorem fo_94_2 : fieldOf Try.prog 94 2 = some (2, 17) := by kernel_rfl
theorem pl_94_2 : placesA Try.prog 94 2 = some (2, 1) := by kernel_rfl
theorem fo_94_3 : fieldOf Try.prog 94 3 = some (3, 9) := by kernel_rfl
theorem pl_94_3 : placesA Try.prog 94 3 = some (3, 1) := by kernel_rfl
theorem ap_94 : appOk Try.prog 94 = true := by kernel_rfl
theorem pd_94 : placed Try.prog 94 = true := by kernel_rfl
theorem by_94 : byOf Try.prog 94 = 40 := by kernel_rfl
theorem sz_95 : szOf Try.prog 95 = 4 := by kernel_rfl
theorem so_95 : szO Try.prog 95 = some 4 := by kernel_rfl
theorem ag_95 : isAg Try.prog 95 = some true := by kernel_rfl
theorem ze_95 : zeroC Try.prog 95 = some [.v (.pointer none), .v (.pointer none), .v (.pointer none), .v (.string ⟨#[]⟩)] := by kernel_rfl
theorem ii_95 : isIface Try.prog 95 = some false := by kernel_rfl
theorem zv_95 : zeroV Try.prog 95 = some (.agg [.v (.pointer none), .v (.pointer none), .v (.pointer none), .v (.string ⟨#[]⟩)]) := by kernel_rfl
theorem fo_95_0 : fieldOf Try.prog 95 0 = some (0, 17) := by kernel_rfl
theorem pl_95_0 : placesA Try.prog 95 0 = some (0, 1) := by kernel_rfl
theorem fo_95_1 : fieldOf Try.prog 95 1 = some (1, 17) := by kernel_rfl
theorem pl_95_1 : placesA Try.prog 95 1 = some (1, 1) := by kernel_rfl
theorem fo_95_2 : fieldOf Try.prog 95 2 = some (2, 17) := by kernel_rfl
theorem pl_95_2 : placesA Try.prog 95 2 = some (2, 1) := by kernel_rfl
theorem fo_95_3 : fieldOf Try.prog 95 3 = some (3, 9) := by kernel_rfl
theorem pl_95_3 : placesA Try.prog 95 3 = some (3, 1) := by kernel_rfl
theorem ap_95 : appOk Try.prog 95 = true := by kernel_rfl
theorem pd_95 : placed Try.prog 95 = true := by kernel_rfl
theorem by_95 : byOf Try.prog 95 = 40 := by kernel_rfl
theorem sz_96 : szOf Try.prog 96 = 0 := by kernel_rfl
theorem so_96 : szO Try.prog 96 = some 0 := by kernel_rfl
theorem ag_96 : isAg Try.prog 96 = some true := by kernel_rfl
theorem sh_96 : shapes Try.prog 10 96 = [] := by kernel_rfl
theorem ze_96 : zeroC Try.prog 96 = some [] := by kernel_rfl
theorem ii_96 : isIface Try.prog 96 = some false := by kernel_rfl
theorem ar_96 : arrOf Try.prog 96 = some (0, 16) := by kernel_rfl
theorem pl_96 (i : Nat) : placesA Try.prog 96 i = some (i * szOf Try.prog 16, szOf Try.prog 16) := by kernel_rfl
theorem pd_96 : placed Try.prog 96 = true := by kernel_rfl
theorem by_96 : byOf Try.prog 96 = 0 := by kernel_rfl
theorem sz_97 : szOf Try.prog 97 = 0 := by kernel_rfl
theorem so_97 : szO Try.prog 97 = some 0 := by kernel_rfl
theorem ag_97 : isAg Try.prog 97 = some true := by kernel_rfl
theorem sh_97 : shapes Try.prog 10 97 = [] := by kernel_rfl
theorem ze_97 : zeroC Try.prog 97 = some [] := by kernel_rfl
theorem ii_97 : isIface Try.prog 97 = some false := by kernel_rfl
theorem zv_97 : zeroV Try.prog 97 = some (.agg []) := by kernel_rfl
theorem fo_97_0 : fieldOf Try.prog 97 0 = some (0, 96) := by kernel_rfl
theorem pl_97_0 : placesA Try.prog 97 0 = some (0, 0) := by kernel_rfl
theorem pd_97 : placed Try.prog 97 = true := by kernel_rfl
theorem by_97 : byOf Try.prog 97 = 0 := by kernel_rfl
theorem sz_98 : szOf Try.prog 98 = 0 := by kernel_rfl
theorem so_98 : szO Try.prog 98 = some 0 := by kernel_rfl
theorem ag_98 : isAg Try.prog 98 = some true := by kernel_rfl
theorem sh_98 : shapes Try.prog 10 98 = [] := by kernel_rfl
theorem ze_98 : zeroC Try.prog 98 = some [] := by kernel_rfl
theorem ii_98 : isIface Try.prog 98 = some false := by kernel_rfl
theorem zv_98 : zeroV Try.prog 98 = some (.agg []) := by kernel_rfl
theorem fo_98_0 : fieldOf Try.prog 98 0 = some (0, 96) := by kernel_rfl
theorem pl_98_0 : placesA Try.prog 98 0 = some (0, 0) := by kernel_rfl
theorem pd_98 : placed Try.prog 98 = true := by kernel_rfl
theorem by_98 : byOf Try.prog 98 = 0 := by kernel_rfl
theorem sz_99 : szOf Try.prog 99 = 1 := by kernel_rfl
theorem so_99 : szO Try.prog 99 = some 1 := by kernel_rfl
theorem ag_99 : isAg Try.prog 99 = some false := by kernel_rfl
theorem sh_99 : shapes Try.prog 10 99 = [.int .u32] := by kernel_rfl
theorem ze_99 : zeroC Try.prog 99 = some [.v (.int .u32 0)] := by kernel_rfl
theorem ii_99 : isIface Try.prog 99 = some false := by kernel_rfl
theorem zv_99 : zeroV Try.prog 99 = some (.v (.int .u32 0)) := by kernel_rfl
theorem un_99 : Try.prog.underlying 99 = some (.int .u32) := by kernel_rfl
theorem ap_99 : appOk Try.prog 99 = true := by kernel_rfl
theorem by_99 : byOf Try.prog 99 = 4 := by kernel_rfl
theorem sz_100 : szOf Try.prog 100 = 1 := by kernel_rfl
theorem so_100 : szO Try.prog 100 = some 1 := by kernel_rfl
theorem ag_100 : isAg Try.prog 100 = some false := by kernel_rfl
theorem sh_100 : shapes Try.prog 10 100 = [.int .u8] := by kernel_rfl
theorem ze_100 : zeroC Try.prog 100 = some [.v (.int .u8 0)] := by kernel_rfl
theorem ii_100 : isIface Try.prog 100 = some false := by kernel_rfl
theorem zv_100 : zeroV Try.prog 100 = some (.v (.int .u8 0)) := by kernel_rfl
theorem un_100 : Try.prog.underlying 100 = some (.int .u8) := by kernel_rfl
theorem ap_100 : appOk Try.prog 100 = true := by kernel_rfl
theorem by_100 : byOf Try.prog 100 = 1 := by kernel_rfl
theorem sz_101 : szOf Try.prog 101 = 1 := by kernel_rfl
theorem so_101 : szO Try.prog 101 = some 1 := by kernel_rfl
theorem ag_101 : isAg Try.prog 101 = some false := by kernel_rfl
theorem sh_101 : shapes Try.prog 10 101 = [.int .u8] := by kernel_rfl
theorem ze_101 : zeroC Try.prog 101 = some [.v (.int .u8 0)] := by kernel_rfl
theorem ii_101 : isIface Try.prog 101 = some false := by kernel_rfl
theorem zv_101 : zeroV Try.prog 101 = some (.v (.int .u8 0)) := by kernel_rfl
theorem un_101 : Try.prog.underlying 101 = some (.int .u8) := by kernel_rfl
theorem ap_101 : appOk Try.prog 101 = true := by kernel_rfl
theorem by_101 : byOf Try.prog 101 = 1 := by kernel_rfl
theorem sz_103 : szOf Try.prog 103 = 1 := by kernel_rfl
theorem so_103 : szO Try.prog 103 = some 1 := by kernel_rfl
theorem ag_103 : isAg Try.prog 103 = some false := by kernel_rfl
theorem sh_103 : shapes Try.prog 10 103 = [.int .i32] := by kernel_rfl
theorem ze_103 : zeroC Try.prog 103 = some [.v (.int .i32 0)] := by kernel_rfl
theorem ii_103 : isIface Try.prog 103 = some false := by kernel_rfl
theorem zv_103 : zeroV Try.prog 103 = some (.v (.int .i32 0)) := by kernel_rfl
theorem un_103 : Try.prog.underlying 103 = some (.int .i32) := by kernel_rfl
theorem ap_103 : appOk Try.prog 103 = true := by kernel_rfl
theorem by_103 : byOf Try.prog 103 = 4 := by kernel_rfl
theorem sz_104 : szOf Try.prog 104 = 1 := by kernel_rfl
theorem so_104 : szO Try.prog 104 = some 1 := by kernel_rfl
theorem ag_104 : isAg Try.prog 104 = some false := by kernel_rfl
theorem sh_104 : shapes Try.prog 10 104 = [.int .i32] := by kernel_rfl
theorem ze_104 : zeroC Try.prog 104 = some [.v (.int .i32 0)] := by kernel_rfl
theorem ii_104 : isIface Try.prog 104 = some false := by kernel_rfl
theorem zv_104 : zeroV Try.prog 104 = some (.v (.int .i32 0)) := by kernel_rfl
theorem un_104 : Try.prog.underlying 104 = some (.int .i32) := by kernel_rfl
theorem ap_104 : appOk Try.prog 104 = true := by kernel_rfl
theorem by_104 : byOf Try.prog 104 = 4 := by kernel_rfl
theorem sz_105 : szOf Try.prog 105 = 11 := by kernel_rfl
theorem so_105 : szO Try.prog 105 = some 11 := by kernel_rfl
theorem ag_105 : isAg Try.prog 105 = some true := by kernel_rfl
theorem ze_105 : zeroC Try.prog 105 = some [.v (.int .u64 0), .v (.int .u64 0), .v (.int .u32 0), .v (.int .u8 0), .v (.int .u8 0), .v (.int .u8 0), .v (.int .u8 0), .v .nilFunc, .v (.pointer none), .v (.int .i32 0), .v (.int .i32 0)] := by kernel_rfl
theorem ii_105 : isIface Try.prog 105 = some false := by kernel_rfl
theorem zv_105 : zeroV Try.prog 105 = some (.agg [.v (.int .u64 0), .v (.int .u64 0), .v (.int .u32 0), .v (.int .u8 0), .v (.int .u8 0), .v (.int .u8 0), .v (.int .u8 0), .v .nilFunc, .v (.pointer none), .v (.int .i32 0), .v (.int .i32 0)]) := by kernel_rfl
theorem fo_105_0 : fieldOf Try.prog 105 0 = some (0, 12) := by kernel_rfl
theorem pl_105_0 : placesA Try.prog 105 0 = some (0, 1) := by kernel_rfl
theorem fo_105_1 : fieldOf Try.prog 105 1 = some (1, 12) := by kernel_rfl
theorem pl_105_1 : placesA Try.prog 105 1 = some (1, 1) := by kernel_rfl
theorem fo_105_2 : fieldOf Try.prog 105 2 = some (2, 99) := by kernel_rfl
theorem pl_105_2 : placesA Try.prog 105 2 = some (2, 1) := by kernel_rfl
theorem fo_105_3 : fieldOf Try.prog 105 3 = some (3, 100) := by kernel_rfl
theorem pl_105_3 : placesA Try.prog 105 3 = some (3, 1) := by kernel_rfl
theorem fo_105_4 : fieldOf Try.prog 105 4 = some (4, 5) := by kernel_rfl
theorem pl_105_4 : placesA Try.prog 105 4 = some (4, 1) := by kernel_rfl
theorem fo_105_5 : fieldOf Try.prog 105 5 = some (5, 5) := by kernel_rfl
theorem pl_105_5 : placesA Try.prog 105 5 = some (5, 1) := by kernel_rfl
theorem fo_105_6 : fieldOf Try.prog 105 6 = some (6, 101) := by kernel_rfl
theorem pl_105_6 : placesA Try.prog 105 6 = some (6, 1) := by kernel_rfl
theorem fo_105_7 : fieldOf Try.prog 105 7 = some (7, 102) := by kernel_rfl
theorem pl_105_7 : placesA Try.prog 105 7 = some (7, 1) := by kernel_rfl
theorem fo_105_8 : fieldOf Try.prog 105 8 = some (8, 91) := by kernel_rfl
theorem pl_105_8 : placesA Try.prog 105 8 = some (8, 1) := by kernel_rfl
theorem fo_105_9 : fieldOf Try.prog 105 9 = some (9, 103) := by kernel_rfl
theorem pl_105_9 : placesA Try.prog 105 9 = some (9, 1) := by kernel_rfl
theorem fo_105_10 : fieldOf Try.prog 105 10 = some (10, 104) := by kernel_rfl
theorem pl_105_10 : placesA Try.prog 105 10 = some (10, 1) := by kernel_rfl
theorem ap_105 : appOk Try.prog 105 = true := by kernel_rfl
theorem pd_105 : placed Try.prog 105 = true := by kernel_rfl
theorem by_105 : byOf Try.prog 105 = 48 := by kernel_rfl
theorem sz_106 : szOf Try.prog 106 = 11 := by kernel_rfl
theorem so_106 : szO Try.prog 106 = some 11 := by kernel_rfl
theorem ag_106 : isAg Try.prog 106 = some true := by kernel_rfl
theorem ze_106 : zeroC Try.prog 106 = some [.v (.int .u64 0), .v (.int .u64 0), .v (.int .u32 0), .v (.int .u8 0), .v (.int .u8 0), .v (.int .u8 0), .v (.int .u8 0), .v .nilFunc, .v (.pointer none), .v (.int .i32 0), .v (.int .i32 0)] := by kernel_rfl
theorem ii_106 : isIface Try.prog 106 = some false := by kernel_rfl
theorem zv_106 : zeroV Try.prog 106 = some (.agg [.v (.int .u64 0), .v (.int .u64 0), .v (.int .u32 0), .v (.int .u8 0), .v (.int .u8 0), .v (.int .u8 0), .v (.int .u8 0), .v .nilFunc, .v (.pointer none), .v (.int .i32 0), .v (.int .i32 0)]) := by kernel_rfl
theorem fo_106_0 : fieldOf Try.prog 106 0 = some (0, 12) := by kernel_rfl
theorem pl_106_0 : placesA Try.prog 106 0 = some (0, 1) := by kernel_rfl
theorem fo_106_1 : fieldOf Try.prog 106 1 = some (1, 12) := by kernel_rfl
theorem pl_106_1 : placesA Try.prog 106 1 = some (1, 1) := by kernel_rfl
theorem fo_106_2 : fieldOf Try.prog 106 2 = some (2, 99) := by kernel_rfl
theorem pl_106_2 : placesA Try.prog 106 2 = some (2, 1) := by kernel_rfl
theorem fo_106_3 : fieldOf Try.prog 106 3 = some (3, 100) := by kernel_rfl
theorem pl_106_3 : placesA Try.prog 106 3 = some (3, 1) := by kernel_rfl
theorem fo_106_4 : fieldOf Try.prog 106 4 = some (4, 5) := by kernel_rfl
theorem pl_106_4 : placesA Try.prog 106 4 = some (4, 1) := by kernel_rfl
theorem fo_106_5 : fieldOf Try.prog 106 5 = some (5, 5) := by kernel_rfl
theorem pl_106_5 : placesA Try.prog 106 5 = some (5, 1) := by kernel_rfl
theorem fo_106_6 : fieldOf Try.prog 106 6 = some (6, 101) := by kernel_rfl
theorem pl_106_6 : placesA Try.prog 106 6 = some (6, 1) := by kernel_rfl
theorem fo_106_7 : fieldOf Try.prog 106 7 = some (7, 102) := by kernel_rfl
theorem pl_106_7 : placesA Try.prog 106 7 = some (7, 1) := by kernel_rfl
theorem fo_106_8 : fieldOf Try.prog 106 8 = some (8, 91) := by kernel_rfl
theorem pl_106_8 : placesA Try.prog 106 8 = some (8, 1) := by kernel_rfl
theorem fo_106_9 : fieldOf Try.prog 106 9 = some (9, 103) := by kernel_rfl
theorem pl_106_9 : placesA Try.prog 106 9 = some (9, 1) := by kernel_rfl
theorem fo_106_10 : fieldOf Try.prog 106 10 = some (10, 104) := by kernel_rfl
theorem pl_106_10 : placesA Try.prog 106 10 = some (10, 1) := by kernel_rfl
theorem ap_106 : appOk Try.prog 106 = true := by kernel_rfl
theorem pd_106 : placed Try.prog 106 = true := by kernel_rfl
theorem by_106 : byOf Try.prog 106 = 48 := by kernel_rfl
theorem fn_2 : Try.prog.funcs[2]? = some Try.f2 := Try.func2
theorem fn_3 : Try.prog.funcs[3]? = some Try.f3 := Try.func3
theorem fn_4 : Try.prog.funcs[4]? = some Try.f4 := Try.func4
theorem fn_5 : Try.prog.funcs[5]? = some Try.f5 := Try.func5
theorem fn_6 : Try.prog.funcs[6]? = some Try.f6 := Try.func6
theorem fn_7 : Try.prog.funcs[7]? = some Try.f7 := Try.func7
theorem fn_8 : Try.prog.funcs[8]? = some Try.f8 := Try.func8
theorem fn_9 : Try.prog.funcs[9]? = some Try.f9 := Try.func9
theorem fn_10 : Try.prog.funcs[10]? = some Try.f10 := Try.func10
theorem fn_11 : Try.prog.funcs[11]? = some Try.f11 := Try.func11
theorem fn_12 : Try.prog.funcs[12]? = some Try.f12 := Try.func12
theorem fn_13 : Try.prog.funcs[13]? = some Try.f13 := Try.func13
theorem fn_14 : Try.prog.funcs[14]? = some Try.f14 := Try.func14
theorem fn_15 : Try.prog.funcs[15]? = some Try.f15 := Try.func15
theorem fn_16 : Try.prog.funcs[16]? = some Try.f16 := Try.func16
theorem fn_17 : Try.prog.funcs[17]? = some Try.f17 := Try.func17
theorem fn_18 : Try.prog.funcs[18]? = some Try.f18 := Try.func18
theorem fn_19 : Try.prog.funcs[19]? = some Try.f19 := Try.func19
theorem fn_20 : Try.prog.funcs[20]? = some Try.f20 := Try.func20
theorem fn_21 : Try.prog.funcs[21]? = some Try.f21 := Try.func21
theorem fn_22 : Try.prog.funcs[22]? = some Try.f22 := Try.func22
theorem fn_23 : Try.prog.funcs[23]? = some Try.f23 := Try.func23
theorem fn_24 : Try.prog.funcs[24]? = some Try.f24 := Try.func24
theorem fn_25 : Try.prog.funcs[25]? = some Try.f25 := Try.func25
theorem fn_26 : Try.prog.funcs[26]? = some Try.f26 := Try.func26
theorem fn_27 : Try.prog.funcs[27]? = some Try.f27 := Try.func27
theorem fn_28 : Try.prog.funcs[28]? = some Try.f28 := Try.func28
theorem fn_29 : Try.prog.funcs[29]? = some Try.f29 := Try.func29
theorem fn_30 : Try.prog.funcs[30]? = some Try.f30 := Try.func30
theorem fn_31 : Try.prog.funcs[31]? = some Try.f31 := Try.func31
theorem fn_32 : Try.prog.funcs[32]? = some Try.f32 := Try.func32
theorem fn_33 : Try.prog.funcs[33]? = some Try.f33 := Try.func33
theorem fn_34 : Try.prog.funcs[34]? = some Try.f34 := Try.func34
theorem fn_35 : Try.prog.funcs[35]? = some Try.f35 := Try.func35
theorem fn_36 : Try.prog.funcs[36]? = some Try.f36 := Try.func36
theorem fn_37 : Try.prog.funcs[37]? = some Try.f37 := Try.func37
theorem fn_38 : Try.prog.funcs[38]? = some Try.f38 := Try.func38
theorem fn_39 : Try.prog.funcs[39]? = some Try.f39 := Try.func39
theorem fn_40 : Try.prog.funcs[40]? = some Try.f40 := Try.func40
theorem fn_41 : Try.prog.funcs[41]? = some Try.f41 := Try.func41
theorem fn_42 : Try.prog.funcs[42]? = some Try.f42 := Try.func42
theorem fn_43 : Try.prog.funcs[43]? = some Try.f43 := Try.func43
theorem fn_44 : Try.prog.funcs[44]? = some Try.f44 := Try.func44
theorem fn_45 : Try.prog.funcs[45]? = some Try.f45 := Try.func45
theorem fn_46 : Try.prog.funcs[46]? = some Try.f46 := Try.func46
theorem fn_47 : Try.prog.funcs[47]? = some Try.f47 := Try.func47
theorem fn_48 : Try.prog.funcs[48]? = some Try.f48 := Try.func48
theorem fn_49 : Try.prog.funcs[49]? = some Try.f49 := Try.func49
theorem fn_50 : Try.prog.funcs[50]? = some Try.f50 := Try.func50
theorem fn_51 : Try.prog.funcs[51]? = some Try.f51 := Try.func51
theorem fn_52 : Try.prog.funcs[52]? = some Try.f52 := Try.func52
theorem fn_53 : Try.prog.funcs[53]? = some Try.f53 := Try.func53
theorem fn_54 : Try.prog.funcs[54]? = some Try.f54 := Try.func54
theorem fn_55 : Try.prog.funcs[55]? = some Try.f55 := Try.func55
theorem fn_56 : Try.prog.funcs[56]? = some Try.f56 := Try.func56
theorem fn_57 : Try.prog.funcs[57]? = some Try.f57 := Try.func57
theorem fn_58 : Try.prog.funcs[58]? = some Try.f58 := Try.func58
theorem fn_59 : Try.prog.funcs[59]? = some Try.f59 := Try.func59
theorem fn_60 : Try.prog.funcs[60]? = some Try.f60 := Try.func60
theorem fn_61 : Try.prog.funcs[61]? = some Try.f61 := Try.func61
theorem ok_2 : okF C 2 Try.f2 = true := by kernel_rfl
theorem ok_3 : okF C 3 Try.f3 = true := by kernel_rfl
theorem ok_4 : okF C 4 Try.f4 = true := by kernel_rfl
theorem ok_5 : okF C 5 Try.f5 = true := by kernel_rfl
theorem ok_6 : okF C 6 Try.f6 = true := by kernel_rfl
theorem ok_7 : okF C 7 Try.f7 = true := by kernel_rfl
theorem ok_8 : okF C 8 Try.f8 = true := by kernel_rfl
theorem ok_9 : okF C 9 Try.f9 = true := by kernel_rfl
theorem ok_10 : okF C 10 Try.f10 = true := by kernel_rfl
theorem ok_11 : okF C 11 Try.f11 = true := by kernel_rfl
theorem ok_12 : okF C 12 Try.f12 = true := by kernel_rfl
theorem ok_13 : okF C 13 Try.f13 = true := by kernel_rfl
theorem ok_14 : okF C 14 Try.f14 = true := by kernel_rfl
theorem ok_15 : okF C 15 Try.f15 = true := by kernel_rfl
theorem ok_16 : okF C 16 Try.f16 = true := by kernel_rfl
theorem ok_17 : okF C 17 Try.f17 = true := by kernel_rfl
theorem ok_18 : okF C 18 Try.f18 = true := by kernel_rfl
theorem ok_19 : okF C 19 Try.f19 = true := by kernel_rfl
theorem ok_20 : okF C 20 Try.f20 = true := by kernel_rfl
theorem ok_21 : okF C 21 Try.f21 = true := by kernel_rfl
theorem ok_22 : okF C 22 Try.f22 = true := by kernel_rfl
theorem ok_23 : okF C 23 Try.f23 = true := by kernel_rfl
theorem ok_24 : okF C 24 Try.f24 = true := by kernel_rfl
theorem ok_25 : okF C 25 Try.f25 = true := by kernel_rfl
theorem ok_26 : okF C 26 Try.f26 = true := by kernel_rfl
theorem ok_27 : okF C 27 Try.f27 = true := by kernel_rfl
theorem ok_28 : okF C 28 Try.f28 = true := by kernel_rfl
theorem ok_29 : okF C 29 Try.f29 = true := by kernel_rfl
theorem ok_30 : okF C 30 Try.f30 = true := by kernel_rfl
theorem ok_31 : okF C 31 Try.f31 = true := by kernel_rfl
theorem ok_32 : okF C 32 Try.f32 = true := by kernel_rfl
theorem ok_33 : okF C 33 Try.f33 = true := by kernel_rfl
theorem ok_34 : okF C 34 Try.f34 = true := by kernel_rfl
theorem ok_35 : okF C 35 Try.f35 = true := by kernel_rfl
theorem ok_36 : okF C 36 Try.f36 = true := by kernel_rfl
theorem ok_37 : okF C 37 Try.f37 = true := by kernel_rfl
theorem ok_38 : okF C 38 Try.f38 = true := by kernel_rfl
theorem ok_39 : okF C 39 Try.f39 = true := by kernel_rfl
theorem ok_40 : okF C 40 Try.f40 = true := by kernel_rfl
theorem ok_41 : okF C 41 Try.f41 = true := by kernel_rfl
theorem ok_42 : okF C 42 Try.f42 = true := by kernel_rfl
theorem ok_43 : okF C 43 Try.f43 = true := by kernel_rfl
theorem ok_44 : okF C 44 Try.f44 = true := by kernel_rfl
theorem ok_45 : okF C 45 Try.f45 = true := by kernel_rfl
theorem ok_46 : okF C 46 Try.f46 = true := by kernel_rfl
theorem ok_47 : okF C 47 Try.f47 = true := by kernel_rfl
theorem ok_48 : okF C 48 Try.f48 = true := by kernel_rfl
theorem ok_49 : okF C 49 Try.f49 = true := by kernel_rfl
theorem ok_50 : okF C 50 Try.f50 = true := by kernel_rfl
theorem ok_51 : okF C 51 Try.f51 = true := by kernel_rfl
theorem ok_52 : okF C 52 Try.f52 = true := by kernel_rfl
theorem ok_53 : okF C 53 Try.f53 = true := by kernel_rfl
theorem ok_54 : okF C 54 Try.f54 = true := by kernel_rfl
theorem ok_55 : okF C 55 Try.f55 = true := by kernel_rfl
theorem ok_56 : okF C 56 Try.f56 = true := by kernel_rfl
theorem ok_57 : okF C 57 Try.f57 = true := by kernel_rfl
theorem ok_58 : okF C 58 Try.f58 = true := by kernel_rfl
theorem ok_59 : okF C 59 Try.f59 = true := by kernel_rfl
theorem ok_60 : okF C 60 Try.f60 = true := by kernel_rfl
theorem ok_61 : okF C 61 Try.f61 = true := by kernel_rfl
set_option maxRecDepth 100000
theorem EVF : type_of% (And.intro @sz_2 (And.intro @so_2 (And.intro @ag_2 (And.intro @sh_2 (And.intro @ze_2 (And.intro @ii_2 (And.intro @zv_2 (And.intro @un_2 (And.intro @ap_2 (And.intro @by_2 (And.intro @sz_3 (And.intro @so_3 (And.intro @ag_3 (And.intro @sh_3 (And.intro @ze_3 (And.intro @ii_3 (And.intro @zv_3 (And.intro @un_3 (And.intro @ap_3 (And.intro @by_3 (And.intro @sz_4 (And.intro @so_4 (And.intro @ag_4 (And.intro @sh_4 (And.intro @ze_4 (And.intro @ii_4 (And.intro @zv_4 (And.intro @un_4 (And.intro @ap_4 (And.intro @by_4 (And.intro @sz_5 (And.intro @so_5 (And.intro @ag_5 (And.intro @sh_5 (And.intro @ze_5 (And.intro @ii_5 (And.intro @zv_5 (And.intro @un_5 (And.intro @ap_5 (And.intro @by_5 (And.intro @sz_6 (And.intro @so_6 (And.intro @ag_6 (And.intro @sh_6 (And.intro @ze_6 (And.intro @ii_6 (And.intro @zv_6 (And.intro @un_6 (And.intro @ap_6 (And.intro @by_6 (And.intro @sz_7 (And.intro @so_7 (And.intro @ag_7 (And.intro @sh_7 (And.intro @ze_7 (And.intro @ii_7 (And.intro @zv_7 (And.intro @fo_7_0 (And.intro @pl_7_0 (And.intro @fo_7_1 (And.intro @pl_7_1 (And.intro @fo_7_2 (And.intro @pl_7_2 (And.intro @fo_7_3 (And.intro @pl_7_3 (And.intro @ap_7 (And.intro @pd_7 (And.intro @by_7 (And.intro @sz_8 (And.intro @so_8 (And.intro @ag_8 (And.intro @sh_8 (And.intro @ze_8 (And.intro @ii_8 (And.intro @zv_8 (And.intro @fo_8_0 (And.intro @pl_8_0 (And.intro @fo_8_1 (And.intro @pl_8_1 (And.intro @fo_8_2 (And.intro @pl_8_2 (And.intro @fo_8_3 (And.intro @pl_8_3 (And.intro @ap_8 (And.intro @pd_8 (And.intro @by_8 (And.intro @sz_9 (And.intro @so_9 (And.intro @ag_9 (And.intro @sh_9 (And.intro @ze_9 (And.intro @ii_9 (And.intro @zv_9 (And.intro @un_9 (And.intro @ap_9 (And.intro @by_9 (And.intro @sz_10 (And.intro @so_10 (And.intro @ag_10 (And.intro @sh_10 (And.intro @ze_10 (And.intro @ii_10 (And.intro @zv_10 (And.intro @un_10 (And.intro @ap_10 (And.intro @by_10 (And.intro @sz_11 (And.intro @so_11 (And.intro @ag_11 (And.intro @sh_11 (And.intro @ze_11 (And.intro @ii_11 (And.intro @zv_11 (And.intro @un_11 (And.intro @ap_11 (And.intro @by_11 (And.intro @sz_12 (And.intro @so_12 (And.intro @ag_12 (And.intro @sh_12 (And.intro @ze_12 (And.intro @ii_12 (And.intro @zv_12 (And.intro @un_12 (And.intro @ap_12 (And.intro @by_12 (And.intro @sz_13 (And.intro @so_13 (And.intro @ag_13 (And.intro @sh_13 (And.intro @ze_13 (And.intro @ii_13 (And.intro @zv_13 (And.intro @fo_13_0 (And.intro @pl_13_0 (And.intro @fo_13_1 (And.intro @pl_13_1 (And.intro @ap_13 (And.intro @pd_13 (And.intro @by_13 (And.intro @sz_14 (And.intro @so_14 (And.intro @ag_14 (And.intro @sh_14 (And.intro @ze_14 (And.intro @ii_14 (And.intro @zv_14 (And.intro @fo_14_0 (And.intro @pl_14_0 (And.intro @fo_14_1 (And.intro @pl_14_1 (And.intro @ap_14 (And.intro @pd_14 (And.intro @by_14 (And.intro @sz_15 (And.intro @so_15 (And.intro @ag_15 (And.intro @ze_15 (And.intro @ii_15 (And.intro @pt_15 (And.intro @ap_15 (And.intro @by_15 (And.intro @sz_16 (And.intro @so_16 (And.intro @ag_16 (And.intro @ze_16 (And.intro @ii_16 (And.intro @pt_16 (And.intro @ap_16 (And.intro @by_16 (And.intro @sz_17 (And.intro @so_17 (And.intro @ag_17 (And.intro @ze_17 (And.intro @ii_17 (And.intro @pt_17 (And.intro @ap_17 (And.intro @by_17 (And.intro @sz_18 (And.intro @so_18 (And.intro @ag_18 (And.intro @ze_18 (And.intro @ii_18 (And.intro @zv_18 (And.intro @fo_18_0 (And.intro @pl_18_0 (And.intro @ap_18 (And.intro @pd_18 (And.intro @by_18 (And.intro @sz_19 (And.intro @so_19 (And.intro @ag_19 (And.intro @ze_19 (And.intro @ii_19 (And.intro @zv_19 (And.intro @fo_19_0 (And.intro @pl_19_0 (And.intro @ap_19 (And.intro @pd_19 (And.intro @by_19 (And.intro @sz_21 (And.intro @so_21 (And.intro @ag_21 (And.intro @sh_21 (And.intro @ze_21 (And.intro @ii_21 (And.intro @zv_21 (And.intro @un_21 (And.intro @ap_21 (And.intro @by_21 (And.intro @sz_22 (And.intro @so_22 (And.intro @ag_22 (And.intro @sh_22 (And.intro @ze_22 (And.intro @ii_22 (And.intro @el_22 (And.intro @un_22 (And.intro @ap_22 (And.intro @by_22 (And.intro @sz_23 (And.intro @so_23 (And.intro @ag_23 (And.intro @sh_23 (And.intro @ze_23 (And.intro @ii_23 (And.intro @zv_23 (And.intro @fo_23_0 (And.intro @pl_23_0 (And.intro @fo_23_1 (And.intro @pl_23_1 (And.intro @fo_23_2 (And.intro @pl_23_2 (And.intro @fo_23_3 (And.intro @pl_23_3 (And.intro @fo_23_4 (And.intro @pl_23_4 (And.intro @fo_23_5 (And.intro @pl_23_5 (And.intro @ap_23 (And.intro @pd_23 (And.intro @by_23 (And.intro @sz_24 (And.intro @so_24 (And.intro @ag_24 (And.intro @sh_24 (And.intro @ze_24 (And.intro @ii_24 (And.intro @zv_24 (And.intro @fo_24_0 (And.intro @pl_24_0 (And.intro @fo_24_1 (And.intro @pl_24_1 (And.intro @fo_24_2 (And.intro @pl_24_2 (And.intro @fo_24_3 (And.intro @pl_24_3 (And.intro @fo_24_4 (And.intro @pl_24_4 (And.intro @fo_24_5 (And.intro @pl_24_5 (And.intro @ap_24 (And.intro @pd_24 (And.intro @by_24 (And.intro @sz_25 (And.intro @so_25 (And.intro @ag_25 (And.intro @sh_25 (And.intro @ze_25 (And.intro @ii_25 (And.intro @ar_25 (And.intro @pl_25 (And.intro @ap_25 (And.intro @pd_25 (And.intro @by_25 (And.intro @sz_26 (And.intro @so_26 (And.intro @ag_26 (And.intro @sh_26 (And.intro @ze_26 (And.intro @ii_26 (And.intro @el_26 (And.intro @un_26 (And.intro @ap_26 (And.intro @by_26 (And.intro @sz_27 (And.intro @so_27 (And.intro @ag_27 (And.intro @sh_27 (And.intro @ze_27 (And.intro @ii_27 (And.intro @el_27 (And.intro @un_27 (And.intro @ap_27 (And.intro @by_27 (And.intro @sz_30 (And.intro @so_30 (And.intro @ag_30 (And.intro @sh_30 (And.intro @ze_30 (And.intro @ii_30 (And.intro @el_30 (And.intro @un_30 (And.intro @ap_30 (And.intro @by_30 (And.intro @sz_31 (And.intro @so_31 (And.intro @ag_31 (And.intro @sh_31 (And.intro @ze_31 (And.intro @ii_31 (And.intro @zv_31 (And.intro @un_31 (And.intro @ap_31 (And.intro @by_31 (And.intro @sz_35 (And.intro @so_35 (And.intro @ag_35 (And.intro @sh_35 (And.intro @ze_35 (And.intro @ii_35 (And.intro @ar_35 (And.intro @pl_35 (And.intro @ap_35 (And.intro @pd_35 (And.intro @by_35 (And.intro @sz_39 (And.intro @so_39 (And.intro @ag_39 (And.intro @sh_39 (And.intro @ze_39 (And.intro @ii_39 (And.intro @zv_39 (And.intro @fs_39 (And.intro @fo_39_0 (And.intro @pl_39_0 (And.intro @fo_39_1 (And.intro @pl_39_1 (And.intro @ap_39 (And.intro @pd_39 (And.intro @by_39 (And.intro @sz_40 (And.intro @so_40 (And.intro @ag_40 (And.intro @sh_40 (And.intro @ze_40 (And.intro @ii_40 (And.intro @zv_40 (And.intro @fs_40 (And.intro @fo_40_0 (And.intro @pl_40_0 (And.intro @fo_40_1 (And.intro @pl_40_1 (And.intro @ap_40 (And.intro @pd_40 (And.intro @by_40 (And.intro @sz_48 (And.intro @so_48 (And.intro @ag_48 (And.intro @sh_48 (And.intro @ze_48 (And.intro @ii_48 (And.intro @zv_48 (And.intro @un_48 (And.intro @ap_48 (And.intro @by_48 (And.intro @sz_49 (And.intro @so_49 (And.intro @ag_49 (And.intro @sh_49 (And.intro @ze_49 (And.intro @ii_49 (And.intro @zv_49 (And.intro @un_49 (And.intro @ap_49 (And.intro @by_49 (And.intro @sz_50 (And.intro @so_50 (And.intro @ag_50 (And.intro @sh_50 (And.intro @ze_50 (And.intro @ii_50 (And.intro @zv_50 (And.intro @fs_50 (And.intro @pd_50 (And.intro @by_50 (And.intro @sz_51 (And.intro @so_51 (And.intro @ag_51 (And.intro @sh_51 (And.intro @ze_51 (And.intro @ii_51 (And.intro @zv_51 (And.intro @fs_51 (And.intro @pd_51 (And.intro @by_51 (And.intro @sz_64 (And.intro @so_64 (And.intro @ag_64 (And.intro @sh_64 (And.intro @ze_64 (And.intro @ii_64 (And.intro @zv_64 (And.intro @fs_64 (And.intro @pd_64 (And.intro @by_64 (And.intro @sz_67 (And.intro @so_67 (And.intro @ag_67 (And.intro @sh_67 (And.intro @ze_67 (And.intro @ii_67 (And.intro @el_67 (And.intro @un_67 (And.intro @ap_67 (And.intro @by_67 (And.intro @sz_73 (And.intro @so_73 (And.intro @ag_73 (And.intro @ze_73 (And.intro @ii_73 (And.intro @pt_73 (And.intro @ap_73 (And.intro @by_73 (And.intro @sz_74 (And.intro @so_74 (And.intro @ag_74 (And.intro @ze_74 (And.intro @ii_74 (And.intro @zv_74 (And.intro @fo_74_0 (And.intro @pl_74_0 (And.intro @fo_74_1 (And.intro @pl_74_1 (And.intro @ap_74 (And.intro @pd_74 (And.intro @by_74 (And.intro @sz_75 (And.intro @so_75 (And.intro @ag_75 (And.intro @ze_75 (And.intro @ii_75 (And.intro @zv_75 (And.intro @fo_75_0 (And.intro @pl_75_0 (And.intro @fo_75_1 (And.intro @pl_75_1 (And.intro @ap_75 (And.intro @pd_75 (And.intro @by_75 (And.intro @sz_83 (And.intro @so_83 (And.intro @ag_83 (And.intro @sh_83 (And.intro @ze_83 (And.intro @ii_83 (And.intro @zv_83 (And.intro @un_83 (And.intro @ap_83 (And.intro @by_83 (And.intro @sz_91 (And.intro @so_91 (And.intro @ag_91 (And.intro @ze_91 (And.intro @ii_91 (And.intro @pt_91 (And.intro @ap_91 (And.intro @by_91 (And.intro @sz_94 (And.intro @so_94 (And.intro @ag_94 (And.intro @ze_94 (And.intro @ii_94 (And.intro @zv_94 (And.intro @fo_94_0 (And.intro @pl_94_0 (And.intro @fo_94_1 (And.intro @pl_94_1 (And.intro @fo_94_2 (And.intro @pl_94_2 (And.intro @fo_94_3 (And.intro @pl_94_3 (And.intro @ap_94 (And.intro @pd_94 (And.intro @by_94 (And.intro @sz_95 (And.intro @so_95 (And.intro @ag_95 (And.intro @ze_95 (And.intro @ii_95 (And.intro @zv_95 (And.intro @fo_95_0 (And.intro @pl_95_0 (And.intro @fo_95_1 (And.intro @pl_95_1 (And.intro @fo_95_2 (And.intro @pl_95_2 (And.intro @fo_95_3 (And.intro @pl_95_3 (And.intro @ap_95 (And.intro @pd_95 (And.intro @by_95 (And.intro @sz_96 (And.intro @so_96 (And.intro @ag_96 (And.intro @sh_96 (And.intro @ze_96 (And.intro @ii_96 (And.intro @ar_96 (And.intro @pl_96 (And.intro @pd_96 (And.intro @by_96 (And.intro @sz_97 (And.intro @so_97 (And.intro @ag_97 (And.intro @sh_97 (And.intro @ze_97 (And.intro @ii_97 (And.intro @zv_97 (And.intro @fo_97_0 (And.intro @pl_97_0 (And.intro @pd_97 (And.intro @by_97 (And.intro @sz_98 (And.intro @so_98 (And.intro @ag_98 (And.intro @sh_98 (And.intro @ze_98 (And.intro @ii_98 (And.intro @zv_98 (And.intro @fo_98_0 (And.intro @pl_98_0 (And.intro @pd_98 (And.intro @by_98 (And.intro @sz_99 (And.intro @so_99 (And.intro @ag_99 (And.intro @sh_99 (And.intro @ze_99 (And.intro @ii_99 (And.intro @zv_99 (And.intro @un_99 (And.intro @ap_99 (And.intro @by_99 (And.intro @sz_100 (And.intro @so_100 (And.intro @ag_100 (And.intro @sh_100 (And.intro @ze_100 (And.intro @ii_100 (And.intro @zv_100 (And.intro @un_100 (And.intro @ap_100 (And.intro @by_100 (And.intro @sz_101 (And.intro @so_101 (And.intro @ag_101 (And.intro @sh_101 (And.intro @ze_101 (And.intro @ii_101 (And.intro @zv_101 (And.intro @un_101 (And.intro @ap_101 (And.intro @by_101 (And.intro @sz_103 (And.intro @so_103 (And.intro @ag_103 (And.intro @sh_103 (And.intro @ze_103 (And.intro @ii_103 (And.intro @zv_103 (And.intro @un_103 (And.intro @ap_103 (And.intro @by_103 (And.intro @sz_104 (And.intro @so_104 (And.intro @ag_104 (And.intro @sh_104 (And.intro @ze_104 (And.intro @ii_104 (And.intro @zv_104 (And.intro @un_104 (And.intro @ap_104 (And.intro @by_104 (And.intro @sz_105 (And.intro @so_105 (And.intro @ag_105 (And.intro @ze_105 (And.intro @ii_105 (And.intro @zv_105 (And.intro @fo_105_0 (And.intro @pl_105_0 (And.intro @fo_105_1 (And.intro @pl_105_1 (And.intro @fo_105_2 (And.intro @pl_105_2 (And.intro @fo_105_3 (And.intro @pl_105_3 (And.intro @fo_105_4 (And.intro @pl_105_4 (And.intro @fo_105_5 (And.intro @pl_105_5 (And.intro @fo_105_6 (And.intro @pl_105_6 (And.intro @fo_105_7 (And.intro @pl_105_7 (And.intro @fo_105_8 (And.intro @pl_105_8 (And.intro @fo_105_9 (And.intro @pl_105_9 (And.intro @fo_105_10 (And.intro @pl_105_10 (And.intro @ap_105 (And.intro @pd_105 (And.intro @by_105 (And.intro @sz_106 (And.intro @so_106 (And.intro @ag_106 (And.intro @ze_106 (And.intro @ii_106 (And.intro @zv_106 (And.intro @fo_106_0 (And.intro @pl_106_0 (And.intro @fo_106_1 (And.intro @pl_106_1 (And.intro @fo_106_2 (And.intro @pl_106_2 (And.intro @fo_106_3 (And.intro @pl_106_3 (And.intro @fo_106_4 (And.intro @pl_106_4 (And.intro @fo_106_5 (And.intro @pl_106_5 (And.intro @fo_106_6 (And.intro @pl_106_6 (And.intro @fo_106_7 (And.intro @pl_106_7 (And.intro @fo_106_8 (And.intro @pl_106_8 (And.intro @fo_106_9 (And.intro @pl_106_9 (And.intro @fo_106_10 (And.intro @pl_106_10 (And.intro @ap_106 (And.intro @pd_106 (And.intro @by_106 (And.intro @fn_2 (And.intro @fn_3 (And.intro @fn_4 (And.intro @fn_5 (And.intro @fn_6 (And.intro @fn_7 (And.intro @fn_8 (And.intro @fn_9 (And.intro @fn_10 (And.intro @fn_11 (And.intro @fn_12 (And.intro @fn_13 (And.intro @fn_14 (And.intro @fn_15 (And.intro @fn_16 (And.intro @fn_17 (And.intro @fn_18 (And.intro @fn_19 (And.intro @fn_20 (And.intro @fn_21 (And.intro @fn_22 (And.intro @fn_23 (And.intro @fn_24 (And.intro @fn_25 (And.intro @fn_26 (And.intro @fn_27 (And.intro @fn_28 (And.intro @fn_29 (And.intro @fn_30 (And.intro @fn_31 (And.intro @fn_32 (And.intro @fn_33 (And.intro @fn_34 (And.intro @fn_35 (And.intro @fn_36 (And.intro @fn_37 (And.intro @fn_38 (And.intro @fn_39 (And.intro @fn_40 (And.intro @fn_41 (And.intro @fn_42 (And.intro @fn_43 (And.intro @fn_44 (And.intro @fn_45 (And.intro @fn_46 (And.intro @fn_47 (And.intro @fn_48 (And.intro @fn_49 (And.intro @fn_50 (And.intro @fn_51 (And.intro @fn_52 (And.intro @fn_53 (And.intro @fn_54 (And.intro @fn_55 (And.intro @fn_56 (And.intro @fn_57 (And.intro @fn_58 (And.intro @fn_59 (And.intro @fn_60 (And.intro @fn_61 (And.intro @C_P (And.intro @C_norms (And.intro @C_heap (And.intro @C_quiet (And.intro @C_cuts (And.intro @C_draws (And.intro @C_prim (And.intro @C_shp (And.intro @C_drawm (And.intro @C_opn (And.intro @C_cold (And.intro @C_ext (And.intro @C_ice (@C_shut)))))))))))))))))))))))))))))))))))))))))))))))))))))))))))))))))))))))))))))))))))))))))))))))))))))))))))))))))))))))))))))))))))))))))))))))))))))))))))))))))))))))))))))))))))))))))))))))))))))))))))))))))))))))))))))))))))))))))))))))))))))))))))))))))))))))))))))))))))))))))))))))))))))))))))))))))))))))))))))))))))))))))))))))))))))))))))))))))))))))))))))))))))))))))))))))))))))))))))))))))))))))))))))))))))))))))))))))))))))))))))))))))))))))))))))))))))))))))))))))))))))))))))))))))))))))))))))))))))))))))))))))))))))))))))))))))))))))))))))))))))))))))))))))))))))))))))))))))))))))))))))))))))))))))))))))))))))))))))))))))))))))))))))))))))))))))))))))))))))))))))))))))))))))))))))))))))))))))))))))) := And.intro @sz_2 (And.intro @so_2 (And.intro @ag_2 (And.intro @sh_2 (And.intro @ze_2 (And.intro @ii_2 (And.intro @zv_2 (And.intro @un_2 (And.intro @ap_2 (And.intro @by_2 (And.intro @sz_3 (And.intro @so_3 (And.intro @ag_3 (And.intro @sh_3 (And.intro @ze_3 (And.intro @ii_3 (And.intro @zv_3 (And.intro @un_3 (And.intro @ap_3 (And.intro @by_3 (And.intro @sz_4 (And.intro @so_4 (And.intro @ag_4 (And.intro @sh_4 (And.intro @ze_4 (And.intro @ii_4 (And.intro @zv_4 (And.intro @un_4 (And.intro @ap_4 (And.intro @by_4 (And.intro @sz_5 (And.intro @so_5 (And.intro @ag_5 (And.intro @sh_5 (And.intro @ze_5 (And.intro @ii_5 (And.intro @zv_5 (And.intro @un_5 (And.intro @ap_5 (And.intro @by_5 (And.intro @sz_6 (And.intro @so_6 (And.intro @ag_6 (And.intro @sh_6 (And.intro @ze_6 (And.intro @ii_6 (And.intro @zv_6 (And.intro @un_6 (And.intro @ap_6 (And.intro @by_6 (And.intro @sz_7 (And.intro @so_7 (And.intro @ag_7 (And.intro @sh_7 (And.intro @ze_7 (And.intro @ii_7 (And.intro @zv_7 (And.intro @fo_7_0 (And.intro @pl_7_0 (And.intro @fo_7_1 (And.intro @pl_7_1 (And.intro @fo_7_2 (And.intro @pl_7_2 (And.intro @fo_7_3 (And.intro @pl_7_3 (And.intro @ap_7 (And.intro @pd_7 (And.intro @by_7 (And.intro @sz_8 (And.intro @so_8 (And.intro @ag_8 (And.intro @sh_8 (And.intro @ze_8 (And.intro @ii_8 (And.intro @zv_8 (And.intro @fo_8_0 (And.intro @pl_8_0 (And.intro @fo_8_1 (And.intro @pl_8_1 (And.intro @fo_8_2 (And.intro @pl_8_2 (And.intro @fo_8_3 (And.intro @pl_8_3 (And.intro @ap_8 (And.intro @pd_8 (And.intro @by_8 (And.intro @sz_9 (And.intro @so_9 (And.intro @ag_9 (And.intro @sh_9 (And.intro @ze_9 (And.intro @ii_9 (And.intro @zv_9 (And.intro @un_9 (And.intro @ap_9 (And.intro @by_9 (And.intro @sz_10 (And.intro @so_10 (And.intro @ag_10 (And.intro @sh_10 (And.intro @ze_10 (And.intro @ii_10 (And.intro @zv_10 (And.intro @un_10 (And.intro @ap_10 (And.intro @by_10 (And.intro @sz_11 (And.intro @so_11 (And.intro @ag_11 (And.intro @sh_11 (And.intro @ze_11 (And.intro @ii_11 (And.intro @zv_11 (And.intro @un_11 (And.intro @ap_11 (And.intro @by_11 (And.intro @sz_12 (And.intro @so_12 (And.intro @ag_12 (And.intro @sh_12 (And.intro @ze_12 (And.intro @ii_12 (And.intro @zv_12 (And.intro @un_12 (And.intro @ap_12 (And.intro @by_12 (And.intro @sz_13 (And.intro @so_13 (And.intro @ag_13 (And.intro @sh_13 (And.intro @ze_13 (And.intro @ii_13 (And.intro @zv_13 (And.intro @fo_13_0 (And.intro @pl_13_0 (And.intro @fo_13_1 (And.intro @pl_13_1 (And.intro @ap_13 (And.intro @pd_13 (And.intro @by_13 (And.intro @sz_14 (And.intro @so_14 (And.intro @ag_14 (And.intro @sh_14 (And.intro @ze_14 (And.intro @ii_14 (And.intro @zv_14 (And.intro @fo_14_0 (And.intro @pl_14_0 (And.intro @fo_14_1 (And.intro @pl_14_1 (And.intro @ap_14 (And.intro @pd_14 (And.intro @by_14 (And.intro @sz_15 (And.intro @so_15 (And.intro @ag_15 (And.intro @ze_15 (And.intro @ii_15 (And.intro @pt_15 (And.intro @ap_15 (And.intro @by_15 (And.intro @sz_16 (And.intro @so_16 (And.intro @ag_16 (And.intro @ze_16 (And.intro @ii_16 (And.intro @pt_16 (And.intro @ap_16 (And.intro @by_16 (And.intro @sz_17 (And.intro @so_17 (And.intro @ag_17 (And.intro @ze_17 (And.intro @ii_17 (And.intro @pt_17 (And.intro @ap_17 (And.intro @by_17 (And.intro @sz_18 (And.intro @so_18 (And.intro @ag_18 (And.intro @ze_18 (And.intro @ii_18 (And.intro @zv_18 (And.intro @fo_18_0 (And.intro @pl_18_0 (And.intro @ap_18 (And.intro @pd_18 (And.intro @by_18 (And.intro @sz_19 (And.intro @so_19 (And.intro @ag_19 (And.intro @ze_19 (And.intro @ii_19 (And.intro @zv_19 (And.intro @fo_19_0 (And.intro @pl_19_0 (And.intro @ap_19 (And.intro @pd_19 (And.intro @by_19 (And.intro @sz_21 (And.intro @so_21 (And.intro @ag_21 (And.intro @sh_21 (And.intro @ze_21 (And.intro @ii_21 (And.intro @zv_21 (And.intro @un_21 (And.intro @ap_21 (And.intro @by_21 (And.intro @sz_22 (And.intro @so_22 (And.intro @ag_22 (And.intro @sh_22 (And.intro @ze_22 (And.intro @ii_22 (And.intro @el_22 (And.intro @un_22 (And.intro @ap_22 (And.intro @by_22 (And.intro @sz_23 (And.intro @so_23 (And.intro @ag_23 (And.intro @sh_23 (And.intro @ze_23 (And.intro @ii_23 (And.intro @zv_23 (And.intro @fo_23_0 (And.intro @pl_23_0 (And.intro @fo_23_1 (And.intro @pl_23_1 (And.intro @fo_23_2 (And.intro @pl_23_2 (And.intro @fo_23_3 (And.intro @pl_23_3 (And.intro @fo_23_4 (And.intro @pl_23_4 (And.intro @fo_23_5 (And.intro @pl_23_5 (And.intro @ap_23 (And.intro @pd_23 (And.intro @by_23 (And.intro @sz_24 (And.intro @so_24 (And.intro @ag_24 (And.intro @sh_24 (And.intro @ze_24 (And.intro @ii_24 (And.intro @zv_24 (And.intro @fo_24_0 (And.intro @pl_24_0 (And.intro @fo_24_1 (And.intro @pl_24_1 (And.intro @fo_24_2 (And.intro @pl_24_2 (And.intro @fo_24_3 (And.intro @pl_24_3 (And.intro @fo_24_4 (And.intro @pl_24_4 (And.intro @fo_24_5 (And.intro @pl_24_5 (And.intro @ap_24 (And.intro @pd_24 (And.intro @by_24 (And.intro @sz_25 (And.intro @so_25 (And.intro @ag_25 (And.intro @sh_25 (And.intro @ze_25 (And.intro @ii_25 (And.intro @ar_25 (And.intro @pl_25 (And.intro @ap_25 (And.intro @pd_25 (And.intro @by_25 (And.intro @sz_26 (And.intro @so_26 (And.intro @ag_26 (And.intro @sh_26 (And.intro @ze_26 (And.intro @ii_26 (And.intro @el_26 (And.intro @un_26 (And.intro @ap_26 (And.intro @by_26 (And.intro @sz_27 (And.intro @so_27 (And.intro @ag_27 (And.intro @sh_27 (And.intro @ze_27 (And.intro @ii_27 (And.intro @el_27 (And.intro @un_27 (And.intro @ap_27 (And.intro @by_27 (And.intro @sz_30 (And.intro @so_30 (And.intro @ag_30 (And.intro @sh_30 (And.intro @ze_30 (And.intro @ii_30 (And.intro @el_30 (And.intro @un_30 (And.intro @ap_30 (And.intro @by_30 (And.intro @sz_31 (And.intro @so_31 (And.intro @ag_31 (And.intro @sh_31 (And.intro @ze_31 (And.intro @ii_31 (And.intro @zv_31 (And.intro @un_31 (And.intro @ap_31 (And.intro @by_31 (And.intro @sz_35 (And.intro @so_35 (And.intro @ag_35 (And.intro @sh_35 (And.intro @ze_35 (And.intro @ii_35 (And.intro @ar_35 (And.intro @pl_35 (And.intro @ap_35 (And.intro @pd_35 (And.intro @by_35 (And.intro @sz_39 (And.intro @so_39 (And.intro @ag_39 (And.intro @sh_39 (And.intro @ze_39 (And.intro @ii_39 (And.intro @zv_39 (And.intro @fs_39 (And.intro @fo_39_0 (And.intro @pl_39_0 (And.intro @fo_39_1 (And.intro @pl_39_1 (And.intro @ap_39 (And.intro @pd_39 (And.intro @by_39 (And.intro @sz_40 (And.intro @so_40 (And.intro @ag_40 (And.intro @sh_40 (And.intro @ze_40 (And.intro @ii_40 (And.intro @zv_40 (And.intro @fs_40 (And.intro @fo_40_0 (And.intro @pl_40_0 (And.intro @fo_40_1 (And.intro @pl_40_1 (And.intro @ap_40 (And.intro @pd_40 (And.intro @by_40 (And.intro @sz_48 (And.intro @so_48 (And.intro @ag_48 (And.intro @sh_48 (And.intro @ze_48 (And.intro @ii_48 (And.intro @zv_48 (And.intro @un_48 (And.intro @ap_48 (And.intro @by_48 (And.intro @sz_49 (And.intro @so_49 (And.intro @ag_49 (And.intro @sh_49 (And.intro @ze_49 (And.intro @ii_49 (And.intro @zv_49 (And.intro @un_49 (And.intro @ap_49 (And.intro @by_49 (And.intro @sz_50 (And.intro @so_50 (And.intro @ag_50 (And.intro @sh_50 (And.intro @ze_50 (And.intro @ii_50 (And.intro @zv_50 (And.intro @fs_50 (And.intro @pd_50 (And.intro @by_50 (And.intro @sz_51 (And.intro @so_51 (And.intro @ag_51 (And.intro @sh_51 (And.intro @ze_51 (And.intro @ii_51 (And.intro @zv_51 (And.intro @fs_51 (And.intro @pd_51 (And.intro @by_51 (And.intro @sz_64 (And.intro @so_64 (And.intro @ag_64 (And.intro @sh_64 (And.intro @ze_64 (And.intro @ii_64 (And.intro @zv_64 (And.intro @fs_64 (And.intro @pd_64 (And.intro @by_64 (And.intro @sz_67 (And.intro @so_67 (And.intro @ag_67 (And.intro @sh_67 (And.intro @ze_67 (And.intro @ii_67 (And.intro @el_67 (And.intro @un_67 (And.intro @ap_67 (And.intro @by_67 (And.intro @sz_73 (And.intro @so_73 (And.intro @ag_73 (And.intro @ze_73 (And.intro @ii_73 (And.intro @pt_73 (And.intro @ap_73 (And.intro @by_73 (And.intro @sz_74 (And.intro @so_74 (And.intro @ag_74 (And.intro @ze_74 (And.intro @ii_74 (And.intro @zv_74 (And.intro @fo_74_0 (And.intro @pl_74_0 (And.intro @fo_74_1 (And.intro @pl_74_1 (And.intro @ap_74 (And.intro @pd_74 (And.intro @by_74 (And.intro @sz_75 (And.intro @so_75 (And.intro @ag_75 (And.intro @ze_75 (And.intro @ii_75 (And.intro @zv_75 (And.intro @fo_75_0 (And.intro @pl_75_0 (And.intro @fo_75_1 (And.intro @pl_75_1 (And.intro @ap_75 (And.intro @pd_75 (And.intro @by_75 (And.intro @sz_83 (And.intro @so_83 (And.intro @ag_83 (And.intro @sh_83 (And.intro @ze_83 (And.intro @ii_83 (And.intro @zv_83 (And.intro @un_83 (And.intro @ap_83 (And.intro @by_83 (And.intro @sz_91 (And.intro @so_91 (And.intro @ag_91 (And.intro @ze_91 (And.intro @ii_91 (And.intro @pt_91 (And.intro @ap_91 (And.intro @by_91 (And.intro @sz_94 (And.intro @so_94 (And.intro @ag_94 (And.intro @ze_94 (And.intro @ii_94 (And.intro @zv_94 (And.intro @fo_94_0 (And.intro @pl_94_0 (And.intro @fo_94_1 (And.intro @pl_94_1 (And.intro @fo_94_2 (And.intro @pl_94_2 (And.intro @fo_94_3 (And.intro @pl_94_3 (And.intro @ap_94 (And.intro @pd_94 (And.intro @by_94 (And.intro @sz_95 (And.intro @so_95 (And.intro @ag_95 (And.intro @ze_95 (And.intro @ii_95 (And.intro @zv_95 (And.intro @fo_95_0 (And.intro @pl_95_0 (And.intro @fo_95_1 (And.intro @pl_95_1 (And.intro @fo_95_2 (And.intro @pl_95_2 (And.intro @fo_95_3 (And.intro @pl_95_3 (And.intro @ap_95 (And.intro @pd_95 (And.intro @by_95 (And.intro @sz_96 (And.intro @so_96 (And.intro @ag_96 (And.intro @sh_96 (And.intro @ze_96 (And.intro @ii_96 (And.intro @ar_96 (And.intro @pl_96 (And.intro @pd_96 (And.intro @by_96 (And.intro @sz_97 (And.intro @so_97 (And.intro @ag_97 (And.intro @sh_97 (And.intro @ze_97 (And.intro @ii_97 (And.intro @zv_97 (And.intro @fo_97_0 (And.intro @pl_97_0 (And.intro @pd_97 (And.intro @by_97 (And.intro @sz_98 (And.intro @so_98 (And.intro @ag_98 (And.intro @sh_98 (And.intro @ze_98 (And.intro @ii_98 (And.intro @zv_98 (And.intro @fo_98_0 (And.intro @pl_98_0 (And.intro @pd_98 (And.intro @by_98 (And.intro @sz_99 (And.intro @so_99 (And.intro @ag_99 (And.intro @sh_99 (And.intro @ze_99 (And.intro @ii_99 (And.intro @zv_99 (And.intro @un_99 (And.intro @ap_99 (And.intro @by_99 (And.intro @sz_100 (And.intro @so_100 (And.intro @ag_100 (And.intro @sh_100 (And.intro @ze_100 (And.intro @ii_100 (And.intro @zv_100 (And.intro @un_100 (And.intro @ap_100 (And.intro @by_100 (And.intro @sz_101 (And.intro @so_101 (And.intro @ag_101 (And.intro @sh_101 (And.intro @ze_101 (And.intro @ii_101 (And.intro @zv_101 (And.intro @un_101 (And.intro @ap_101 (And.intro @by_101 (And.intro @sz_103 (And.intro @so_103 (And.intro @ag_103 (And.intro @sh_103 (And.intro @ze_103 (And.intro @ii_103 (And.intro @zv_103 (And.intro @un_103 (And.intro @ap_103 (And.intro @by_103 (And.intro @sz_104 (And.intro @so_104 (And.intro @ag_104 (And.intro @sh_104 (And.intro @ze_104 (And.intro @ii_104 (And.intro @zv_104 (And.intro @un_104 (And.intro @ap_104 (And.intro @by_104 (And.intro @sz_105 (And.intro @so_105 (And.intro @ag_105 (And.intro @ze_105 (And.intro @ii_105 (And.intro @zv_105 (And.intro @fo_105_0 (And.intro @pl_105_0 (And.intro @fo_105_1 (And.intro @pl_105_1 (And.intro @fo_105_2 (And.intro @pl_105_2 (And.intro @fo_105_3 (And.intro @pl_105_3 (And.intro @fo_105_4 (And.intro @pl_105_4 (And.intro @fo_105_5 (And.intro @pl_105_5 (And.intro @fo_105_6 (And.intro @pl_105_6 (And.intro @fo_105_7 (And.intro @pl_105_7 (And.intro @fo_105_8 (And.intro @pl_105_8 (And.intro @fo_105_9 (And.intro @pl_105_9 (And.intro @fo_105_10 (And.intro @pl_105_10 (And.intro @ap_105 (And.intro @pd_105 (And.intro @by_105 (And.intro @sz_106 (And.intro @so_106 (And.intro @ag_106 (And.intro @ze_106 (And.intro @ii_106 (And.intro @zv_106 (And.intro @fo_106_0 (And.intro @pl_106_0 (And.intro @fo_106_1 (And.intro @pl_106_1 (And.intro @fo_106_2 (And.intro @pl_106_2 (And.intro @fo_106_3 (And.intro @pl_106_3 (And.intro @fo_106_4 (And.intro @pl_106_4 (And.intro @fo_106_5 (And.intro @pl_106_5 (And.intro @fo_106_6 (And.intro @pl_106_6 (And.intro @fo_106_7 (And.intro @pl_106_7 (And.intro @fo_106_8 (And.intro @pl_106_8 (And.intro @fo_106_9 (And.intro @pl_106_9 (And.intro @fo_106_10 (And.intro @pl_106_10 (And.intro @ap_106 (And.intro @pd_106 (And.intro @by_106 (And.intro @fn_2 (And.intro @fn_3 (And.intro @fn_4 (And.intro @fn_5 (And.intro @fn_6 (And.intro @fn_7 (And.intro @fn_8 (And.intro @fn_9 (And.intro @fn_10 (And.intro @fn_11 (And.intro @fn_12 (And.intro @fn_13 (And.intro @fn_14 (And.intro @fn_15 (And.intro @fn_16 (And.intro @fn_17 (And.intro @fn_18 (And.intro @fn_19 (And.intro @fn_20 (And.intro @fn_21 (And.intro @fn_22 (And.intro @fn_23 (And.intro @fn_24 (And.intro @fn_25 (And.intro @fn_26 (And.intro @fn_27 (And.intro @fn_28 (And.intro @fn_29 (And.intro @fn_30 (And.intro @fn_31 (And.intro @fn_32 (And.intro @fn_33 (And.intro @fn_34 (And.intro @fn_35 (And.intro @fn_36 (And.intro @fn_37 (And.intro @fn_38 (And.intro @fn_39 (And.intro @fn_40 (And.intro @fn_41 (And.intro @fn_42 (And.intro @fn_43 (And.intro @fn_44 (And.intro @fn_45 (And.intro @fn_46 (And.intro @fn_47 (And.intro @fn_48 (And.intro @fn_49 (And.intro @fn_50 (And.intro @fn_51 (And.intro @fn_52 (And.intro @fn_53 (And.intro @fn_54 (And.intro @fn_55 (And.intro @fn_56 (And.intro @fn_57 (And.intro @fn_58 (And.intro @fn_59 (And.intro @fn_60 (And.intro @fn_61 (And.intro @C_P (And.intro @C_norms (And.intro @C_heap (And.intro @C_quiet (And.intro @C_cuts (And.intro @C_draws (And.intro @C_prim (And.intro @C_shp (And.intro @C_drawm (And.intro @C_opn (And.intro @C_cold (And.intro @C_ext (And.intro @C_ice (@C_shut)))))))))))))))))))))))))))))))))))))))))))))))))))))))))))))))))))))))))))))))))))))))))))))))))))))))))))))))))))))))))))))))))))))))))))))))))))))))))))))))))))))))))))))))))))))))))))))))))))))))))))))))))))))))))))))))))))))))))))))))))))))))))))))))))))))))))))))))))))))))))))))))))))))))))))))))))))))))))))))))))))))))))))))))))))))))))))))))))))))))))))))))))))))))))))))))))))))))))))))))))))))))))))))))))))))))))))))))))))))))))))))))))))))))))))))))))))))))))))))))))))))))))))))))))))))))))))))))))))))))))))))))))))))))))))))))))))))))))))))))))))))))))))))))))))))))))))))))))))))))))))))))))))))))))))))))))))))))))))))))))))))))))))))))))))))))))))))))))))))))))))))))))))))))))))))))))))))))))))))))
end Go.Ai
