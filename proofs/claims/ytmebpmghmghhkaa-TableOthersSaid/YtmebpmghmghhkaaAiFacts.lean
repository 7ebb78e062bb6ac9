/- The configuration of the abstract machine for this seat, and closed facts on its types. Written by ai_gen.py. -/
import Derived.Test.YtmebpmghmghhkaaProg
import Derived.Test.YtmebpmghmghhkaaAiEv
import Derived.Test.YtmebpmghmghhkaaAiVar
namespace Go.Ai
open Go.Proofs

def normsOf : FuncId → Nat → Norm
  | 3, 3 => ⟨[0, 1, 4, 11, 26, 27, 28], [10, 11], [], 0, []⟩
  | 3, 6 => ⟨[0, 1, 4, 11, 13, 26, 27, 28, 33, 34, 35], [0, 1, 4, 10, 11, 13, 26, 27, 28], [], 0, []⟩
  | 3, 12 => ⟨[0, 1, 4, 11, 13, 26, 27, 28, 50, 51, 52], [0, 1, 4, 10, 11, 13, 26, 27, 28], [], 0, []⟩
  | 4, 9 => ⟨[5, 6, 7, 8, 9, 10, 11], [4, 5], [], 0, []⟩
  | 6, 6 => ⟨[3, 4, 5, 6, 7], [2, 3, 4, 6], [], 0, []⟩
  | 6, 12 => ⟨[3, 4, 6, 7, 9, 10], [2, 3, 4, 5, 6, 7, 9], [], 0, []⟩
  | 7, 4 => ⟨[0, 3, 4, 5], [0, 2, 3, 4], [], 0, []⟩
  | 9, 13 => ⟨[2, 7, 8, 10, 11, 13, 15], [6], [], 0, []⟩
  | 10, 5 => ⟨[0, 3, 4, 5, 6], [2, 3], [], 0, []⟩
  | 15, 3 => ⟨[0, 3, 4], [0, 2, 3], [], 0, []⟩
  | 15, 7 => ⟨[0, 3, 5], [2, 3], [], 0, []⟩
  | 16, 3 => ⟨[0, 3, 5, 6, 19, 20, 21], [0, 3, 4, 5, 6], [], 0, []⟩
  | 18, 4 => ⟨[0, 1, 5], [4], [], 0, []⟩
  | 19, 4 => ⟨[2, 3, 5], [4], [], 0, []⟩
  | 20, 3 => ⟨[0, 3, 6, 7, 8], [0, 2], [], 0, []⟩
  | 21, 2 => ⟨[0, 3], [0, 2], [], 0, []⟩
  | 34, 3 => ⟨[0, 1, 2, 8, 9, 10], [0, 1, 2, 6, 7, 8, 9], [], 0, []⟩
  | 41, 2 => ⟨[0, 2, 13, 14, 15], [2], [], 0, []⟩
  | 42, 3 => ⟨[0, 3, 4], [2, 3], [], 0, []⟩
  | 44, 2 => ⟨[0, 1, 5], [4], [], 0, []⟩
  | 45, 3 => ⟨[0, 3, 4, 5, 6], [4, 5], [], 0, []⟩
  | 49, 4 => ⟨[1, 2, 15, 16, 17], [6], [], 0, []⟩
  | 52, 4 => ⟨[0, 1, 5], [4], [], 0, []⟩
  | 60, 4 => ⟨[0, 3, 5, 6, 7], [3, 4, 5, 6], [], 0, []⟩
  | 62, 5 => ⟨[0, 1, 5, 6], [0, 4, 5], [], 0, []⟩
  | 64, 3 => ⟨[0, 3, 6, 7, 8], [0, 2], [], 0, []⟩
  | 65, 3 => ⟨[0, 1, 5, 6], [1, 4, 5], [], 0, []⟩
  | 66, 4 => ⟨[0, 1, 12, 13], [4], [], 0, []⟩
  | 67, 2 => ⟨[0, 1, 7, 8], [4], [], 0, []⟩
  | 71, 2 => ⟨[0, 1, 7, 8], [4], [], 0, []⟩
  | 73, 2 => ⟨[0, 3], [0, 2], [], 0, []⟩
  | 76, 1 => ⟨[0, 2, 3], [], [], 0, []⟩
  | _, _ => ⟨[], [], [], 0, []⟩
def cutsOf : FuncId → Nat → Option Norm
  | 50, 2 => some ⟨[2, 3, 5, 6], [], [], 0, []⟩
  | _, _ => none
def heapOf : FuncId → Bool
  | 36 => true
  | 37 => true
  | 38 => true
  | 39 => true
  | 40 => true
  | 41 => true
  | 45 => true
  | 46 => true
  | 54 => true
  | 55 => true
  | 56 => true
  | 57 => true
  | 58 => true
  | 59 => true
  | 60 => true
  | 62 => true
  | 69 => true
  | _ => false
def quietOf : FuncId → Bool
  | _ => false
def opnOf : FuncId → Bool
  | 57 => true
  | 58 => true
  | _ => false
def shutOf : FuncId → Option (TypeId × Nat)
  | 31 => some (47, 6)
  | 32 => some (58, 2)
  | 57 => some (47, 6)
  | 58 => some (47, 6)
  | 60 => some (47, 6)
  | 62 => some (58, 2)
  | _ => none
def coldOf : FuncId → Bool
  | 17 => true
  | _ => false
def drawsOf : FuncId → Nat → Option (List Nat)
  | 3, 2 => some [0, 2, 5, 1, 3, 4]
  | 3, 8 => some [0, 1, 3, 4, 2, 5, 6]
  | 3, 19 => some [0, 2, 1, 3, 4]
  | 4, 10 => some [0, 1, 2, 3, 4, 5, 6, 7, 8, 9, 10, 11, 12, 13, 14, 15, 16, 17, 18, 19, 20, 21, 22]
  | 4, 19 => some [0, 1, 2, 3, 4, 5, 6, 7, 8, 9, 10, 11, 12, 13, 14, 15, 16, 17, 18, 19, 20, 21, 22, 23]
  | 4, 21 => some [0, 1, 2, 3, 4, 5, 6, 7, 8, 9, 10, 11, 12, 13, 14, 15, 16, 17, 18, 19, 20, 21, 22, 23, 24, 25, 26, 27, 28, 29, 30, 31, 32, 33, 34, 35, 36]
  | 6, 14 => some [0, 1, 2, 3, 4, 5, 6, 7, 8, 9, 10]
  | 9, 16 => some [0, 1, 2, 3, 4, 5, 6, 7, 8, 9, 10, 11, 12, 13, 14, 15, 16, 17, 18, 19, 20, 21, 22, 23, 24, 25, 26, 27, 28, 29, 30, 31, 32, 33, 34, 35, 36, 37, 38, 39, 40, 41, 42, 43, 44, 45, 46]
  | 12, 1 => some [0, 1, 4, 5, 7, 8, 2, 3, 6, 9, 10, 11, 12]
  | 16, 1 => some [0, 2, 1, 3, 4, 5]
  | 16, 5 => some [0, 1, 2, 3, 4, 5, 6, 7, 8, 9, 10]
  | 16, 8 => some [0, 1, 2, 3, 4, 5, 6]
  | 16, 9 => some [0, 1, 2, 3, 4, 5, 6, 7, 8, 9, 10, 11, 12, 13, 14, 15, 16, 17]
  | 16, 12 => some [0, 1, 2, 3, 4, 5, 6]
  | 17, 20 => some [0, 1, 2, 3, 4, 5, 6, 7, 8, 9]
  | 17, 22 => some [0, 1, 2, 3, 4, 5, 6, 8, 9, 7, 10, 11]
  | 18, 6 => some [0, 1, 2, 3, 4, 5, 6, 7, 8, 9]
  | 19, 6 => some [0, 1, 2, 3, 4, 5, 6, 7, 8, 9, 10]
  | 21, 5 => some [0, 1, 2, 3, 4, 5, 6, 7, 8, 9, 10, 11, 12, 13, 14, 15, 16, 17, 18, 19]
  | 38, 4 => some [0, 1, 2, 3, 4, 5, 6, 7, 8, 9, 10, 11, 12, 13, 14, 15, 16, 17]
  | 41, 1 => some [0, 1, 2, 3, 4, 5, 6, 7, 8, 9, 10]
  | 41, 4 => some [0, 1, 2, 3, 4, 5, 6, 7, 8, 9, 10, 11, 12, 13, 14, 15, 16, 17, 18, 19, 20, 21]
  | 45, 5 => some [0, 1, 2, 3, 4, 5, 6, 7, 8, 9, 10, 11, 12, 13, 14, 15, 16, 17, 18, 19, 20, 21, 22]
  | 45, 6 => some [0, 1, 2, 3, 4, 5, 6, 7, 8, 9, 10]
  | 46, 7 => some [0, 1, 2, 3, 4, 5, 6, 7, 8]
  | 47, 11 => some [0, 1, 2, 3, 4, 5, 6, 7, 8, 9, 10, 11, 12, 13, 14]
  | 52, 6 => some [0, 1, 2, 3, 4, 5, 6, 7, 8]
  | 54, 3 => some [0, 1, 2, 3, 4, 5, 6, 7, 8, 9, 10, 11]
  | 55, 1 => some [0, 1, 2, 3, 4, 5, 6, 7, 8, 9]
  | 57, 11 => some [0, 1, 2, 3, 4, 5, 6, 7, 8]
  | 57, 15 => some [0, 1, 2, 3, 4, 5, 6, 7, 8]
  | 58, 5 => some [0, 1, 2, 3, 4, 5, 6, 7]
  | 60, 6 => some [0, 1, 2, 3, 4, 5, 6, 7, 8, 9, 10, 11]
  | 66, 6 => some [0, 1, 2, 3, 4, 5, 6, 7, 8]
  | 73, 4 => some [0, 1, 2, 3, 4, 5, 6, 7, 8, 9, 10, 11, 12, 13, 14, 15, 16, 17, 18, 19, 20, 21, 22, 23, 24, 25, 26, 27, 28, 29, 30, 31, 32, 33, 34, 35, 36, 37, 38, 39, 40]
  | 76, 3 => some [0, 1, 2, 3, 4, 5, 6, 7, 8, 9, 10, 11, 12, 13, 14, 15]
  | _, _ => none
def drawfOf : FuncId → Nat → Option Flo
  | _, _ => none
def drawmOf : FuncId → Nat → Option OT
  | 26, 2 => some (.step 1 (.step 2 (.step 6 (.step 7 (.fork (.step 0 (.step 3 (.step 4 (.step 5 (.step 8 (.step 9 (.step 10 (.step 11 .done)))))))) (.step 5 (.step 8 (.step 9 (.step 0 (.step 3 (.step 4 (.step 10 (.step 11 .done)))))))))))))
  | 36, 3 => some (.step 0 (.step 2 (.step 3 (.step 4 (.step 6 (.step 7 (.step 8 (.fork (.step 1 (.step 5 (.step 9 (.step 10 (.step 11 (.step 12 (.step 13 (.step 14 .done)))))))) (.fork (.step 5 (.fork (.step 1 (.step 9 (.step 10 (.step 11 (.step 12 (.step 13 (.step 14 .done))))))) (.step 9 (.step 10 (.step 11 (.fork (.step 1 (.step 12 (.step 13 (.step 14 .done)))) (.step 12 (.step 1 (.step 13 (.step 14 .done)))))))))) (.step 9 (.fork (.step 1 (.step 5 (.step 10 (.step 11 (.step 12 (.step 13 (.step 14 .done))))))) (.step 5 (.step 10 (.step 11 (.fork (.step 1 (.step 12 (.step 13 (.step 14 .done)))) (.step 12 (.step 1 (.step 13 (.step 14 .done)))))))))))))))))))
  | 37, 5 => some (.step 1 (.step 2 (.step 3 (.step 4 (.step 5 (.step 6 (.step 7 (.step 8 (.fork (.step 0 (.fork (.step 9 (.step 10 (.step 11 (.step 12 (.step 13 (.step 14 (.step 15 (.step 16 (.step 17 (.step 18 (.step 19 (.step 20 (.step 21 (.step 22 (.step 23 (.step 24 .done)))))))))))))))) (.step 14 (.step 15 (.step 16 (.step 17 (.step 18 (.step 9 (.step 10 (.step 11 (.step 12 (.step 13 (.step 19 (.step 20 (.step 21 (.step 22 (.step 23 (.step 24 .done)))))))))))))))))) (.fork (.step 9 (.step 10 (.step 11 (.step 12 (.step 13 (.fork (.step 0 (.step 14 (.step 15 (.step 16 (.step 17 (.step 18 (.step 19 (.step 20 (.step 21 (.step 22 (.step 23 (.step 24 .done)))))))))))) (.step 14 (.step 15 (.step 16 (.step 17 (.step 18 (.step 19 (.fork (.step 0 (.step 20 (.step 21 (.step 22 (.step 23 (.step 24 .done)))))) (.step 20 (.fork (.step 0 (.step 21 (.step 22 (.step 23 (.step 24 .done))))) (.step 21 (.step 0 (.step 22 (.step 23 (.step 24 .done)))))))))))))))))))) (.step 14 (.step 15 (.step 16 (.step 17 (.step 18 (.fork (.step 0 (.step 9 (.step 10 (.step 11 (.step 12 (.step 13 (.step 19 (.step 20 (.step 21 (.step 22 (.step 23 (.step 24 .done)))))))))))) (.step 9 (.step 10 (.step 11 (.step 12 (.step 13 (.step 19 (.fork (.step 0 (.step 20 (.step 21 (.step 22 (.step 23 (.step 24 .done)))))) (.step 20 (.fork (.step 0 (.step 21 (.step 22 (.step 23 (.step 24 .done))))) (.step 21 (.step 0 (.step 22 (.step 23 (.step 24 .done))))))))))))))))))))))))))))))
  | 50, 1 => some (.step 0 (.fork (.step 1 (.fork (.step 2 (.step 3 (.step 4 (.step 5 .done)))) (.step 3 (.step 2 (.step 4 (.step 5 .done)))))) (.fork (.step 2 (.fork (.step 1 (.step 3 (.step 4 (.step 5 .done)))) (.step 3 (.fork (.step 1 (.step 4 (.step 5 .done))) (.step 4 (.step 1 (.step 5 .done))))))) (.step 3 (.fork (.step 1 (.step 2 (.step 4 (.step 5 .done)))) (.step 2 (.fork (.step 1 (.step 4 (.step 5 .done))) (.step 4 (.step 1 (.step 5 .done))))))))))
  | 59, 0 => some (.step 0 (.step 1 (.step 2 (.step 3 (.step 4 (.step 5 (.step 6 (.step 7 (.step 8 (.step 9 (.step 10 (.step 11 (.step 12 (.step 13 (.step 14 (.step 15 (.step 16 (.step 17 .done))))))))))))))))))
  | _, _ => none
def extOf : FuncId → Option ExtA
  | 69 => some extOverlaps
  | 74 => some extCmp
  | _ => none
def primOf : FuncId → Option Prim
  | _ => none
def shpOf : FuncId → List (List (Option Nat))
  | 3 => [[some 5], [some 6], [none, none, none, none, none], [none, none, none, none, none, none, none], [none]]
  | 4 => [[some 5], [none, none, none, none, none]]
  | 5 => [[some 5], [none], [none]]
  | 6 => [[some 5]]
  | 8 => [[some 5], [none, none, none, none, none], [none, none, none, none, none]]
  | 9 => [[some 5], [none], [none]]
  | 10 => [[some 5]]
  | 15 => [[some 5]]
  | 16 => [[some 6], [none, none, none, none, none, none, none]]
  | 17 => [[some 6], [none, none, none, none, none, none, none]]
  | 18 => [[some 6], [some 6]]
  | 19 => [[none, none, none, some 1], [none, none, none, some 1]]
  | 20 => [[some 6]]
  | 21 => [[some 6]]
  | 22 => [[some 6], [some 6]]
  | 25 => [[none, none, none, none, none, some 2], [none, none, none, none, none, some 2]]
  | 31 => [[some 6]]
  | 32 => [[some 2]]
  | 34 => [[some 6], [none], [none]]
  | 35 => [[none, none, none, none, none, some 2], [none]]
  | 42 => [[some 6]]
  | 44 => [[some 6], [none]]
  | 45 => [[some 6], [none, none, none, none, none, none, none]]
  | 46 => [[some 6], [none], [none, none, none, none, none, none, none]]
  | 47 => [[none], [none, none, none, none, none, some 2]]
  | 48 => [[none], [none, none, none, none, none, some 2]]
  | 49 => [[some 6], [some 6], [none]]
  | 50 => [[none, none, none, none, none, some 2], [none, none, none, none, none, some 2]]
  | 51 => [[some 1], [none]]
  | 52 => [[some 2], [some 2]]
  | 57 => [[some 6], [none], [some 6]]
  | 58 => [[some 6], [none], [none]]
  | 60 => [[some 6], [none, none, none, none, none, some 2]]
  | 62 => [[some 2], [none]]
  | 64 => [[some 2]]
  | 65 => [[none], [some 2]]
  | 66 => [[some 2], [some 2]]
  | 67 => [[some 1], [none]]
  | 69 => [[some 6], [some 6]]
  | 70 => [[some 6], [none]]
  | 71 => [[some 2], [none]]
  | 73 => [[some 2]]
  | 75 => [[some 6], [none]]
  | 76 => [[some 6]]
  | _ => []
def iceOf : FuncId → Option (List (List (Option Nat)))
  | 15 => some [[some 6]]
  | 16 => some [[some 6], [none, none, none, some 1]]
  | 17 => some [[], [none, none, none, some 1]]
  | 41 => some [[none, none, none, some 1]]
  | 45 => some [[none, none, none, some 1]]
  | 46 => some [[], [none, none, none, some 1]]
  | _ => none
noncomputable def C : Cfg := { P := Try.prog, norms := normsOf, cuts := cutsOf, heap := heapOf, draws := drawsOf, prim := primOf, quiet := quietOf, shp := shpOf, drawm := drawmOf, drawf := drawfOf, opn := opnOf, shut := shutOf, ext := extOf, ice := iceOf, cold := coldOf }
theorem C_P : C.P = Try.prog := rfl
theorem C_norms (f n : Nat) : C.norms f n = normsOf f n := rfl
theorem C_heap (f : Nat) : C.heap f = heapOf f := rfl
theorem C_cuts (f n : Nat) : C.cuts f n = cutsOf f n := rfl
theorem C_quiet (f : Nat) : C.quiet f = quietOf f := rfl
theorem C_draws (f n : Nat) : C.draws f n = drawsOf f n := rfl
theorem C_prim (f : Nat) : C.prim f = primOf f := rfl
theorem C_shp (f : Nat) : C.shp f = shpOf f := rfl
theorem C_drawm (f n : Nat) : C.drawm f n = drawmOf f n := rfl
theorem C_drawf (f n : Nat) : C.drawf f n = drawfOf f n := rfl
theorem C_ice (f : Nat) : C.ice f = iceOf f := rfl
theorem C_ext (f : Nat) : C.ext f = extOf f := rfl
theorem C_cold (f : Nat) : C.cold f = coldOf f := rfl
theorem C_opn (f : Nat) : C.opn f = opnOf f := rfl
theorem C_shut (f : Nat) : C.shut f = shutOf f := rfl
theorem sz_1 : szOf Try.prog 1 = 1 := by kernel_rfl
theorem so_1 : szO Try.prog 1 = some 1 := by kernel_rfl
theorem ag_1 : isAg Try.prog 1 = some false := by kernel_rfl
theorem sh_1 : shapes Try.prog 10 1 = [.other] := by kernel_rfl
theorem ze_1 : zeroC Try.prog 1 = some [.v .nilFunc] := by kernel_rfl
theorem ii_1 : isIface Try.prog 1 = some false := by kernel_rfl
theorem ap_1 : appOk Try.prog 1 = true := by kernel_rfl
theorem by_1 : byOf Try.prog 1 = 8 := by kernel_rfl
theorem sz_2 : szOf Try.prog 2 = 1 := by kernel_rfl
theorem so_2 : szO Try.prog 2 = some 1 := by kernel_rfl
theorem ag_2 : isAg Try.prog 2 = some false := by kernel_rfl
theorem sh_2 : shapes Try.prog 10 2 = [.int .i64] := by kernel_rfl
theorem ze_2 : zeroC Try.prog 2 = some [.v (.int .i64 0)] := by kernel_rfl
theorem ii_2 : isIface Try.prog 2 = some false := by kernel_rfl
theorem zv_2 : zeroV Try.prog 2 = some (.v (.int .i64 0)) := by kernel_rfl
theorem un_2 : Try.prog.underlying 2 = some (.int .i64) := by kernel_rfl
theorem ap_2 : appOk Try.prog 2 = true := by kernel_rfl
theorem by_2 : byOf Try.prog 2 = 8 := by kernel_rfl
theorem sz_3 : szOf Try.prog 3 = 1 := by kernel_rfl
theorem so_3 : szO Try.prog 3 = some 1 := by kernel_rfl
theorem ag_3 : isAg Try.prog 3 = some false := by kernel_rfl
theorem sh_3 : shapes Try.prog 10 3 = [.int .i64] := by kernel_rfl
theorem ze_3 : zeroC Try.prog 3 = some [.v (.int .i64 0)] := by kernel_rfl
theorem ii_3 : isIface Try.prog 3 = some false := by kernel_rfl
theorem zv_3 : zeroV Try.prog 3 = some (.v (.int .i64 0)) := by kernel_rfl
theorem un_3 : Try.prog.underlying 3 = some (.int .i64) := by kernel_rfl
theorem ap_3 : appOk Try.prog 3 = true := by kernel_rfl
theorem by_3 : byOf Try.prog 3 = 8 := by kernel_rfl
theorem sz_4 : szOf Try.prog 4 = 1 := by kernel_rfl
theorem so_4 : szO Try.prog 4 = some 1 := by kernel_rfl
theorem ag_4 : isAg Try.prog 4 = some false := by kernel_rfl
theorem sh_4 : shapes Try.prog 10 4 = [.bool] := by kernel_rfl
theorem ze_4 : zeroC Try.prog 4 = some [.v (.bool false)] := by kernel_rfl
theorem ii_4 : isIface Try.prog 4 = some false := by kernel_rfl
theorem zv_4 : zeroV Try.prog 4 = some (.v (.bool false)) := by kernel_rfl
theorem un_4 : Try.prog.underlying 4 = some .bool := by kernel_rfl
theorem ap_4 : appOk Try.prog 4 = true := by kernel_rfl
theorem by_4 : byOf Try.prog 4 = 1 := by kernel_rfl
theorem sz_5 : szOf Try.prog 5 = 1 := by kernel_rfl
theorem so_5 : szO Try.prog 5 = some 1 := by kernel_rfl
theorem ag_5 : isAg Try.prog 5 = some false := by kernel_rfl
theorem sh_5 : shapes Try.prog 10 5 = [.int .u8] := by kernel_rfl
theorem ze_5 : zeroC Try.prog 5 = some [.v (.int .u8 0)] := by kernel_rfl
theorem ii_5 : isIface Try.prog 5 = some false := by kernel_rfl
theorem zv_5 : zeroV Try.prog 5 = some (.v (.int .u8 0)) := by kernel_rfl
theorem un_5 : Try.prog.underlying 5 = some (.int .u8) := by kernel_rfl
theorem ap_5 : appOk Try.prog 5 = true := by kernel_rfl
theorem by_5 : byOf Try.prog 5 = 1 := by kernel_rfl
theorem sz_6 : szOf Try.prog 6 = 1 := by kernel_rfl
theorem so_6 : szO Try.prog 6 = some 1 := by kernel_rfl
theorem ag_6 : isAg Try.prog 6 = some false := by kernel_rfl
theorem sh_6 : shapes Try.prog 10 6 = [.int .u8] := by kernel_rfl
theorem ze_6 : zeroC Try.prog 6 = some [.v (.int .u8 0)] := by kernel_rfl
theorem ii_6 : isIface Try.prog 6 = some false := by kernel_rfl
theorem zv_6 : zeroV Try.prog 6 = some (.v (.int .u8 0)) := by kernel_rfl
theorem un_6 : Try.prog.underlying 6 = some (.int .u8) := by kernel_rfl
theorem ap_6 : appOk Try.prog 6 = true := by kernel_rfl
theorem by_6 : byOf Try.prog 6 = 1 := by kernel_rfl
theorem sz_7 : szOf Try.prog 7 = 4 := by kernel_rfl
theorem so_7 : szO Try.prog 7 = some 4 := by kernel_rfl
theorem ag_7 : isAg Try.prog 7 = some true := by kernel_rfl
theorem sh_7 : shapes Try.prog 10 7 = [.int .i64, .int .i64, .bool, .int .u8] := by kernel_rfl
theorem ze_7 : zeroC Try.prog 7 = some [.v (.int .i64 0), .v (.int .i64 0), .v (.bool false), .v (.int .u8 0)] := by kernel_rfl
theorem ii_7 : isIface Try.prog 7 = some false := by kernel_rfl
theorem zv_7 : zeroV Try.prog 7 = some (.agg [.v (.int .i64 0), .v (.int .i64 0), .v (.bool false), .v (.int .u8 0)]) := by kernel_rfl
theorem fo_7_0 : fieldOf Try.prog 7 0 = some (0, 2) := by kernel_rfl
theorem pl_7_0 : placesA Try.prog 7 0 = some (0, 1) := by kernel_rfl
theorem fo_7_1 : fieldOf Try.prog 7 1 = some (1, 3) := by kernel_rfl
theorem pl_7_1 : placesA Try.prog 7 1 = some (1, 1) := by kernel_rfl
theorem fo_7_2 : fieldOf Try.prog 7 2 = some (2, 4) := by kernel_rfl
theorem pl_7_2 : placesA Try.prog 7 2 = some (2, 1) := by kernel_rfl
theorem fo_7_3 : fieldOf Try.prog 7 3 = some (3, 6) := by kernel_rfl
theorem pl_7_3 : placesA Try.prog 7 3 = some (3, 1) := by kernel_rfl
theorem ap_7 : appOk Try.prog 7 = true := by kernel_rfl
theorem pd_7 : placed Try.prog 7 = true := by kernel_rfl
theorem by_7 : byOf Try.prog 7 = 24 := by kernel_rfl
theorem sz_8 : szOf Try.prog 8 = 4 := by kernel_rfl
theorem so_8 : szO Try.prog 8 = some 4 := by kernel_rfl
theorem ag_8 : isAg Try.prog 8 = some true := by kernel_rfl
theorem sh_8 : shapes Try.prog 10 8 = [.int .i64, .int .i64, .bool, .int .u8] := by kernel_rfl
theorem ze_8 : zeroC Try.prog 8 = some [.v (.int .i64 0), .v (.int .i64 0), .v (.bool false), .v (.int .u8 0)] := by kernel_rfl
theorem ii_8 : isIface Try.prog 8 = some false := by kernel_rfl
theorem zv_8 : zeroV Try.prog 8 = some (.agg [.v (.int .i64 0), .v (.int .i64 0), .v (.bool false), .v (.int .u8 0)]) := by kernel_rfl
theorem fo_8_0 : fieldOf Try.prog 8 0 = some (0, 2) := by kernel_rfl
theorem pl_8_0 : placesA Try.prog 8 0 = some (0, 1) := by kernel_rfl
theorem fo_8_1 : fieldOf Try.prog 8 1 = some (1, 3) := by kernel_rfl
theorem pl_8_1 : placesA Try.prog 8 1 = some (1, 1) := by kernel_rfl
theorem fo_8_2 : fieldOf Try.prog 8 2 = some (2, 4) := by kernel_rfl
theorem pl_8_2 : placesA Try.prog 8 2 = some (2, 1) := by kernel_rfl
theorem fo_8_3 : fieldOf Try.prog 8 3 = some (3, 6) := by kernel_rfl
theorem pl_8_3 : placesA Try.prog 8 3 = some (3, 1) := by kernel_rfl
theorem ap_8 : appOk Try.prog 8 = true := by kernel_rfl
theorem pd_8 : placed Try.prog 8 = true := by kernel_rfl
theorem by_8 : byOf Try.prog 8 = 24 := by kernel_rfl
theorem sz_9 : szOf Try.prog 9 = 1 := by kernel_rfl
theorem so_9 : szO Try.prog 9 = some 1 := by kernel_rfl
theorem ag_9 : isAg Try.prog 9 = some false := by kernel_rfl
theorem sh_9 : shapes Try.prog 10 9 = [.str] := by kernel_rfl
theorem ze_9 : zeroC Try.prog 9 = some [.v (.string ⟨#[]⟩)] := by kernel_rfl
theorem ii_9 : isIface Try.prog 9 = some false := by kernel_rfl
theorem zv_9 : zeroV Try.prog 9 = some (.v (.string ⟨#[]⟩)) := by kernel_rfl
theorem un_9 : Try.prog.underlying 9 = some .string := by kernel_rfl
theorem ap_9 : appOk Try.prog 9 = true := by kernel_rfl
theorem by_9 : byOf Try.prog 9 = 16 := by kernel_rfl
theorem sz_10 : szOf Try.prog 10 = 1 := by kernel_rfl
theorem so_10 : szO Try.prog 10 = some 1 := by kernel_rfl
theorem ag_10 : isAg Try.prog 10 = some false := by kernel_rfl
theorem sh_10 : shapes Try.prog 10 10 = [.str] := by kernel_rfl
theorem ze_10 : zeroC Try.prog 10 = some [.v (.string ⟨#[]⟩)] := by kernel_rfl
theorem ii_10 : isIface Try.prog 10 = some false := by kernel_rfl
theorem zv_10 : zeroV Try.prog 10 = some (.v (.string ⟨#[]⟩)) := by kernel_rfl
theorem un_10 : Try.prog.underlying 10 = some .string := by kernel_rfl
theorem ap_10 : appOk Try.prog 10 = true := by kernel_rfl
theorem by_10 : byOf Try.prog 10 = 16 := by kernel_rfl
theorem sz_11 : szOf Try.prog 11 = 1 := by kernel_rfl
theorem so_11 : szO Try.prog 11 = some 1 := by kernel_rfl
theorem ag_11 : isAg Try.prog 11 = some false := by kernel_rfl
theorem sh_11 : shapes Try.prog 10 11 = [.str] := by kernel_rfl
theorem ze_11 : zeroC Try.prog 11 = some [.v (.string ⟨#[]⟩)] := by kernel_rfl
theorem ii_11 : isIface Try.prog 11 = some false := by kernel_rfl
theorem zv_11 : zeroV Try.prog 11 = some (.v (.string ⟨#[]⟩)) := by kernel_rfl
theorem un_11 : Try.prog.underlying 11 = some .string := by kernel_rfl
theorem ap_11 : appOk Try.prog 11 = true := by kernel_rfl
theorem by_11 : byOf Try.prog 11 = 16 := by kernel_rfl
theorem sz_12 : szOf Try.prog 12 = 1 := by kernel_rfl
theorem so_12 : szO Try.prog 12 = some 1 := by kernel_rfl
theorem ag_12 : isAg Try.prog 12 = some false := by kernel_rfl
theorem sh_12 : shapes Try.prog 10 12 = [.int .u64] := by kernel_rfl
theorem ze_12 : zeroC Try.prog 12 = some [.v (.int .u64 0)] := by kernel_rfl
theorem ii_12 : isIface Try.prog 12 = some false := by kernel_rfl
theorem zv_12 : zeroV Try.prog 12 = some (.v (.int .u64 0)) := by kernel_rfl
theorem un_12 : Try.prog.underlying 12 = some (.int .u64) := by kernel_rfl
theorem ap_12 : appOk Try.prog 12 = true := by kernel_rfl
theorem by_12 : byOf Try.prog 12 = 8 := by kernel_rfl
theorem sz_13 : szOf Try.prog 13 = 2 := by kernel_rfl
theorem so_13 : szO Try.prog 13 = some 2 := by kernel_rfl
theorem ag_13 : isAg Try.prog 13 = some true := by kernel_rfl
theorem sh_13 : shapes Try.prog 10 13 = [.str, .int .u64] := by kernel_rfl
theorem ze_13 : zeroC Try.prog 13 = some [.v (.string ⟨#[]⟩), .v (.int .u64 0)] := by kernel_rfl
theorem ii_13 : isIface Try.prog 13 = some false := by kernel_rfl
theorem zv_13 : zeroV Try.prog 13 = some (.agg [.v (.string ⟨#[]⟩), .v (.int .u64 0)]) := by kernel_rfl
theorem fo_13_0 : fieldOf Try.prog 13 0 = some (0, 9) := by kernel_rfl
theorem pl_13_0 : placesA Try.prog 13 0 = some (0, 1) := by kernel_rfl
theorem fo_13_1 : fieldOf Try.prog 13 1 = some (1, 12) := by kernel_rfl
theorem pl_13_1 : placesA Try.prog 13 1 = some (1, 1) := by kernel_rfl
theorem ap_13 : appOk Try.prog 13 = true := by kernel_rfl
theorem pd_13 : placed Try.prog 13 = true := by kernel_rfl
theorem by_13 : byOf Try.prog 13 = 24 := by kernel_rfl
theorem sz_14 : szOf Try.prog 14 = 2 := by kernel_rfl
theorem so_14 : szO Try.prog 14 = some 2 := by kernel_rfl
theorem ag_14 : isAg Try.prog 14 = some true := by kernel_rfl
theorem sh_14 : shapes Try.prog 10 14 = [.str, .int .u64] := by kernel_rfl
theorem ze_14 : zeroC Try.prog 14 = some [.v (.string ⟨#[]⟩), .v (.int .u64 0)] := by kernel_rfl
theorem ii_14 : isIface Try.prog 14 = some false := by kernel_rfl
theorem zv_14 : zeroV Try.prog 14 = some (.agg [.v (.string ⟨#[]⟩), .v (.int .u64 0)]) := by kernel_rfl
theorem fo_14_0 : fieldOf Try.prog 14 0 = some (0, 9) := by kernel_rfl
theorem pl_14_0 : placesA Try.prog 14 0 = some (0, 1) := by kernel_rfl
theorem fo_14_1 : fieldOf Try.prog 14 1 = some (1, 12) := by kernel_rfl
theorem pl_14_1 : placesA Try.prog 14 1 = some (1, 1) := by kernel_rfl
theorem ap_14 : appOk Try.prog 14 = true := by kernel_rfl
theorem pd_14 : placed Try.prog 14 = true := by kernel_rfl
theorem by_14 : byOf Try.prog 14 = 24 := by kernel_rfl
theorem sz_15 : szOf Try.prog 15 = 1 := by kernel_rfl
theorem so_15 : szO Try.prog 15 = some 1 := by kernel_rfl
theorem ag_15 : isAg Try.prog 15 = some false := by kernel_rfl
theorem ze_15 : zeroC Try.prog 15 = some [.v (.pointer none)] := by kernel_rfl
theorem ii_15 : isIface Try.prog 15 = some false := by kernel_rfl
theorem pt_15 : ptrOf Try.prog 15 = some 98 := by kernel_rfl
theorem ap_15 : appOk Try.prog 15 = true := by kernel_rfl
theorem by_15 : byOf Try.prog 15 = 8 := by kernel_rfl
theorem sz_16 : szOf Try.prog 16 = 1 := by kernel_rfl
theorem so_16 : szO Try.prog 16 = some 1 := by kernel_rfl
theorem ag_16 : isAg Try.prog 16 = some false := by kernel_rfl
theorem ze_16 : zeroC Try.prog 16 = some [.v (.pointer none)] := by kernel_rfl
theorem ii_16 : isIface Try.prog 16 = some false := by kernel_rfl
theorem pt_16 : ptrOf Try.prog 16 = some 101 := by kernel_rfl
theorem ap_16 : appOk Try.prog 16 = true := by kernel_rfl
theorem by_16 : byOf Try.prog 16 = 8 := by kernel_rfl
theorem sz_17 : szOf Try.prog 17 = 1 := by kernel_rfl
theorem so_17 : szO Try.prog 17 = some 1 := by kernel_rfl
theorem ag_17 : isAg Try.prog 17 = some false := by kernel_rfl
theorem ze_17 : zeroC Try.prog 17 = some [.v (.pointer none)] := by kernel_rfl
theorem ii_17 : isIface Try.prog 17 = some false := by kernel_rfl
theorem pt_17 : ptrOf Try.prog 17 = some 110 := by kernel_rfl
theorem ap_17 : appOk Try.prog 17 = true := by kernel_rfl
theorem by_17 : byOf Try.prog 17 = 8 := by kernel_rfl
theorem sz_18 : szOf Try.prog 18 = 1 := by kernel_rfl
theorem so_18 : szO Try.prog 18 = some 1 := by kernel_rfl
theorem ag_18 : isAg Try.prog 18 = some true := by kernel_rfl
theorem ze_18 : zeroC Try.prog 18 = some [.v (.pointer none)] := by kernel_rfl
theorem ii_18 : isIface Try.prog 18 = some false := by kernel_rfl
theorem zv_18 : zeroV Try.prog 18 = some (.agg [.v (.pointer none)]) := by kernel_rfl
theorem fo_18_0 : fieldOf Try.prog 18 0 = some (0, 17) := by kernel_rfl
theorem pl_18_0 : placesA Try.prog 18 0 = some (0, 1) := by kernel_rfl
theorem ap_18 : appOk Try.prog 18 = true := by kernel_rfl
theorem pd_18 : placed Try.prog 18 = true := by kernel_rfl
theorem by_18 : byOf Try.prog 18 = 8 := by kernel_rfl
theorem sz_19 : szOf Try.prog 19 = 1 := by kernel_rfl
theorem so_19 : szO Try.prog 19 = some 1 := by kernel_rfl
theorem ag_19 : isAg Try.prog 19 = some true := by kernel_rfl
theorem ze_19 : zeroC Try.prog 19 = some [.v (.pointer none)] := by kernel_rfl
theorem ii_19 : isIface Try.prog 19 = some false := by kernel_rfl
theorem zv_19 : zeroV Try.prog 19 = some (.agg [.v (.pointer none)]) := by kernel_rfl
theorem fo_19_0 : fieldOf Try.prog 19 0 = some (0, 17) := by kernel_rfl
theorem pl_19_0 : placesA Try.prog 19 0 = some (0, 1) := by kernel_rfl
theorem ap_19 : appOk Try.prog 19 = true := by kernel_rfl
theorem pd_19 : placed Try.prog 19 = true := by kernel_rfl
theorem by_19 : byOf Try.prog 19 = 8 := by kernel_rfl
theorem sz_21 : szOf Try.prog 21 = 1 := by kernel_rfl
theorem so_21 : szO Try.prog 21 = some 1 := by kernel_rfl
theorem ag_21 : isAg Try.prog 21 = some false := by kernel_rfl
theorem sh_21 : shapes Try.prog 10 21 = [.int .i32] := by kernel_rfl
theorem ze_21 : zeroC Try.prog 21 = some [.v (.int .i32 0)] := by kernel_rfl
theorem ii_21 : isIface Try.prog 21 = some false := by kernel_rfl
theorem zv_21 : zeroV Try.prog 21 = some (.v (.int .i32 0)) := by kernel_rfl
theorem un_21 : Try.prog.underlying 21 = some (.int .i32) := by kernel_rfl
theorem ap_21 : appOk Try.prog 21 = true := by kernel_rfl
theorem by_21 : byOf Try.prog 21 = 4 := by kernel_rfl
theorem sz_22 : szOf Try.prog 22 = 1 := by kernel_rfl
theorem so_22 : szO Try.prog 22 = some 1 := by kernel_rfl
theorem ag_22 : isAg Try.prog 22 = some false := by kernel_rfl
theorem sh_22 : shapes Try.prog 10 22 = [.sl 5] := by kernel_rfl
theorem ze_22 : zeroC Try.prog 22 = some [.v (.slice none 0 0)] := by kernel_rfl
theorem ii_22 : isIface Try.prog 22 = some false := by kernel_rfl
theorem el_22 : elemOfS Try.prog 22 = some 24 := by kernel_rfl
theorem un_22 : Try.prog.underlying 22 = some (.slice 24) := by kernel_rfl
theorem ap_22 : appOk Try.prog 22 = true := by kernel_rfl
theorem by_22 : byOf Try.prog 22 = 24 := by kernel_rfl
theorem sz_23 : szOf Try.prog 23 = 1 := by kernel_rfl
theorem so_23 : szO Try.prog 23 = some 1 := by kernel_rfl
theorem ag_23 : isAg Try.prog 23 = some false := by kernel_rfl
theorem sh_23 : shapes Try.prog 10 23 = [.sl 6] := by kernel_rfl
theorem ze_23 : zeroC Try.prog 23 = some [.v (.slice none 0 0)] := by kernel_rfl
theorem ii_23 : isIface Try.prog 23 = some false := by kernel_rfl
theorem el_23 : elemOfS Try.prog 23 = some 47 := by kernel_rfl
theorem un_23 : Try.prog.underlying 23 = some (.slice 47) := by kernel_rfl
theorem ap_23 : appOk Try.prog 23 = true := by kernel_rfl
theorem by_23 : byOf Try.prog 23 = 24 := by kernel_rfl
theorem sz_24 : szOf Try.prog 24 = 5 := by kernel_rfl
theorem so_24 : szO Try.prog 24 = some 5 := by kernel_rfl
theorem ag_24 : isAg Try.prog 24 = some true := by kernel_rfl
theorem sh_24 : shapes Try.prog 10 24 = [.int .i64, .int .i64, .int .i64, .int .i64, .int .i64] := by kernel_rfl
theorem ze_24 : zeroC Try.prog 24 = some [.v (.int .i64 0), .v (.int .i64 0), .v (.int .i64 0), .v (.int .i64 0), .v (.int .i64 0)] := by kernel_rfl
theorem ii_24 : isIface Try.prog 24 = some false := by kernel_rfl
theorem ar_24 : arrOf Try.prog 24 = some (5, 3) := by kernel_rfl
theorem pl_24 (i : Nat) : placesA Try.prog 24 i = some (i * szOf Try.prog 3, szOf Try.prog 3) := by kernel_rfl
theorem ap_24 : appOk Try.prog 24 = true := by kernel_rfl
theorem pd_24 : placed Try.prog 24 = true := by kernel_rfl
theorem by_24 : byOf Try.prog 24 = 40 := by kernel_rfl
theorem sz_25 : szOf Try.prog 25 = 7 := by kernel_rfl
theorem so_25 : szO Try.prog 25 = some 7 := by kernel_rfl
theorem ag_25 : isAg Try.prog 25 = some true := by kernel_rfl
theorem sh_25 : shapes Try.prog 10 25 = [.int .i64, .str, .str, .int .i64, .str, .int .i64, .str] := by kernel_rfl
theorem ze_25 : zeroC Try.prog 25 = some [.v (.int .i64 0), .v (.string ⟨#[]⟩), .v (.string ⟨#[]⟩), .v (.int .i64 0), .v (.string ⟨#[]⟩), .v (.int .i64 0), .v (.string ⟨#[]⟩)] := by kernel_rfl
theorem ii_25 : isIface Try.prog 25 = some false := by kernel_rfl
theorem zv_25 : zeroV Try.prog 25 = some (.agg [.v (.int .i64 0), .v (.string ⟨#[]⟩), .v (.string ⟨#[]⟩), .v (.int .i64 0), .v (.string ⟨#[]⟩), .v (.int .i64 0), .v (.string ⟨#[]⟩)]) := by kernel_rfl
theorem fs_25 : flatSh Try.prog 25 = some [.int .i64, .str, .str, .int .i64, .str, .int .i64, .str] := by kernel_rfl
theorem fo_25_0 : fieldOf Try.prog 25 0 = some (0, 3) := by kernel_rfl
theorem pl_25_0 : placesA Try.prog 25 0 = some (0, 1) := by kernel_rfl
theorem fo_25_1 : fieldOf Try.prog 25 1 = some (1, 9) := by kernel_rfl
theorem pl_25_1 : placesA Try.prog 25 1 = some (1, 1) := by kernel_rfl
theorem fo_25_2 : fieldOf Try.prog 25 2 = some (2, 9) := by kernel_rfl
theorem pl_25_2 : placesA Try.prog 25 2 = some (2, 1) := by kernel_rfl
theorem fo_25_3 : fieldOf Try.prog 25 3 = some (3, 3) := by kernel_rfl
theorem pl_25_3 : placesA Try.prog 25 3 = some (3, 1) := by kernel_rfl
theorem fo_25_4 : fieldOf Try.prog 25 4 = some (4, 9) := by kernel_rfl
theorem pl_25_4 : placesA Try.prog 25 4 = some (4, 1) := by kernel_rfl
theorem fo_25_5 : fieldOf Try.prog 25 5 = some (5, 3) := by kernel_rfl
theorem pl_25_5 : placesA Try.prog 25 5 = some (5, 1) := by kernel_rfl
theorem fo_25_6 : fieldOf Try.prog 25 6 = some (6, 9) := by kernel_rfl
theorem pl_25_6 : placesA Try.prog 25 6 = some (6, 1) := by kernel_rfl
theorem ap_25 : appOk Try.prog 25 = true := by kernel_rfl
theorem pd_25 : placed Try.prog 25 = true := by kernel_rfl
theorem by_25 : byOf Try.prog 25 = 88 := by kernel_rfl
theorem sz_26 : szOf Try.prog 26 = 7 := by kernel_rfl
theorem so_26 : szO Try.prog 26 = some 7 := by kernel_rfl
theorem ag_26 : isAg Try.prog 26 = some true := by kernel_rfl
theorem sh_26 : shapes Try.prog 10 26 = [.int .i64, .str, .str, .int .i64, .str, .int .i64, .str] := by kernel_rfl
theorem ze_26 : zeroC Try.prog 26 = some [.v (.int .i64 0), .v (.string ⟨#[]⟩), .v (.string ⟨#[]⟩), .v (.int .i64 0), .v (.string ⟨#[]⟩), .v (.int .i64 0), .v (.string ⟨#[]⟩)] := by kernel_rfl
theorem ii_26 : isIface Try.prog 26 = some false := by kernel_rfl
theorem zv_26 : zeroV Try.prog 26 = some (.agg [.v (.int .i64 0), .v (.string ⟨#[]⟩), .v (.string ⟨#[]⟩), .v (.int .i64 0), .v (.string ⟨#[]⟩), .v (.int .i64 0), .v (.string ⟨#[]⟩)]) := by kernel_rfl
theorem fs_26 : flatSh Try.prog 26 = some [.int .i64, .str, .str, .int .i64, .str, .int .i64, .str] := by kernel_rfl
theorem fo_26_0 : fieldOf Try.prog 26 0 = some (0, 3) := by kernel_rfl
theorem pl_26_0 : placesA Try.prog 26 0 = some (0, 1) := by kernel_rfl
theorem fo_26_1 : fieldOf Try.prog 26 1 = some (1, 9) := by kernel_rfl
theorem pl_26_1 : placesA Try.prog 26 1 = some (1, 1) := by kernel_rfl
theorem fo_26_2 : fieldOf Try.prog 26 2 = some (2, 9) := by kernel_rfl
theorem pl_26_2 : placesA Try.prog 26 2 = some (2, 1) := by kernel_rfl
theorem fo_26_3 : fieldOf Try.prog 26 3 = some (3, 3) := by kernel_rfl
theorem pl_26_3 : placesA Try.prog 26 3 = some (3, 1) := by kernel_rfl
theorem fo_26_4 : fieldOf Try.prog 26 4 = some (4, 9) := by kernel_rfl
theorem pl_26_4 : placesA Try.prog 26 4 = some (4, 1) := by kernel_rfl
theorem fo_26_5 : fieldOf Try.prog 26 5 = some (5, 3) := by kernel_rfl
theorem pl_26_5 : placesA Try.prog 26 5 = some (5, 1) := by kernel_rfl
theorem fo_26_6 : fieldOf Try.prog 26 6 = some (6, 9) := by kernel_rfl
theorem pl_26_6 : placesA Try.prog 26 6 = some (6, 1) := by kernel_rfl
theorem ap_26 : appOk Try.prog 26 = true := by kernel_rfl
theorem pd_26 : placed Try.prog 26 = true := by kernel_rfl
theorem by_26 : byOf Try.prog 26 = 88 := by kernel_rfl
theorem sz_27 : szOf Try.prog 27 = 1 := by kernel_rfl
theorem so_27 : szO Try.prog 27 = some 1 := by kernel_rfl
theorem ag_27 : isAg Try.prog 27 = some false := by kernel_rfl
theorem sh_27 : shapes Try.prog 10 27 = [.other] := by kernel_rfl
theorem ze_27 : zeroC Try.prog 27 = some [.v .nilFunc] := by kernel_rfl
theorem ii_27 : isIface Try.prog 27 = some false := by kernel_rfl
theorem ap_27 : appOk Try.prog 27 = true := by kernel_rfl
theorem by_27 : byOf Try.prog 27 = 8 := by kernel_rfl
theorem sz_28 : szOf Try.prog 28 = 1 := by kernel_rfl
theorem so_28 : szO Try.prog 28 = some 1 := by kernel_rfl
theorem ag_28 : isAg Try.prog 28 = some false := by kernel_rfl
theorem sh_28 : shapes Try.prog 10 28 = [.other] := by kernel_rfl
theorem ze_28 : zeroC Try.prog 28 = some [.v .nilFunc] := by kernel_rfl
theorem ii_28 : isIface Try.prog 28 = some false := by kernel_rfl
theorem ap_28 : appOk Try.prog 28 = true := by kernel_rfl
theorem by_28 : byOf Try.prog 28 = 8 := by kernel_rfl
theorem sz_29 : szOf Try.prog 29 = 1 := by kernel_rfl
theorem so_29 : szO Try.prog 29 = some 1 := by kernel_rfl
theorem ag_29 : isAg Try.prog 29 = some false := by kernel_rfl
theorem sh_29 : shapes Try.prog 10 29 = [.sl 7] := by kernel_rfl
theorem ze_29 : zeroC Try.prog 29 = some [.v (.slice none 0 0)] := by kernel_rfl
theorem ii_29 : isIface Try.prog 29 = some false := by kernel_rfl
theorem el_29 : elemOfS Try.prog 29 = some 26 := by kernel_rfl
theorem un_29 : Try.prog.underlying 29 = some (.slice 26) := by kernel_rfl
theorem ap_29 : appOk Try.prog 29 = true := by kernel_rfl
theorem by_29 : byOf Try.prog 29 = 24 := by kernel_rfl
theorem sz_30 : szOf Try.prog 30 = 1 := by kernel_rfl
theorem so_30 : szO Try.prog 30 = some 1 := by kernel_rfl
theorem ag_30 : isAg Try.prog 30 = some false := by kernel_rfl
theorem sh_30 : shapes Try.prog 10 30 = [.sl 1] := by kernel_rfl
theorem ze_30 : zeroC Try.prog 30 = some [.v (.slice none 0 0)] := by kernel_rfl
theorem ii_30 : isIface Try.prog 30 = some false := by kernel_rfl
theorem el_30 : elemOfS Try.prog 30 = some 3 := by kernel_rfl
theorem un_30 : Try.prog.underlying 30 = some (.slice 3) := by kernel_rfl
theorem ap_30 : appOk Try.prog 30 = true := by kernel_rfl
theorem by_30 : byOf Try.prog 30 = 24 := by kernel_rfl
theorem sz_31 : szOf Try.prog 31 = 1 := by kernel_rfl
theorem so_31 : szO Try.prog 31 = some 1 := by kernel_rfl
theorem ag_31 : isAg Try.prog 31 = some false := by kernel_rfl
theorem sh_31 : shapes Try.prog 10 31 = [.int .i64] := by kernel_rfl
theorem ze_31 : zeroC Try.prog 31 = some [.v (.int .i64 0)] := by kernel_rfl
theorem ii_31 : isIface Try.prog 31 = some false := by kernel_rfl
theorem zv_31 : zeroV Try.prog 31 = some (.v (.int .i64 0)) := by kernel_rfl
theorem un_31 : Try.prog.underlying 31 = some (.int .i64) := by kernel_rfl
theorem ap_31 : appOk Try.prog 31 = true := by kernel_rfl
theorem by_31 : byOf Try.prog 31 = 8 := by kernel_rfl
theorem sz_32 : szOf Try.prog 32 = 1 := by kernel_rfl
theorem so_32 : szO Try.prog 32 = some 1 := by kernel_rfl
theorem ag_32 : isAg Try.prog 32 = some false := by kernel_rfl
theorem sh_32 : shapes Try.prog 10 32 = [.other] := by kernel_rfl
theorem ze_32 : zeroC Try.prog 32 = some [.v .nilFunc] := by kernel_rfl
theorem ii_32 : isIface Try.prog 32 = some false := by kernel_rfl
theorem ap_32 : appOk Try.prog 32 = true := by kernel_rfl
theorem by_32 : byOf Try.prog 32 = 8 := by kernel_rfl
theorem sz_33 : szOf Try.prog 33 = 1 := by kernel_rfl
theorem so_33 : szO Try.prog 33 = some 1 := by kernel_rfl
theorem ag_33 : isAg Try.prog 33 = some false := by kernel_rfl
theorem sh_33 : shapes Try.prog 10 33 = [.other] := by kernel_rfl
theorem ze_33 : zeroC Try.prog 33 = some [.v .nilFunc] := by kernel_rfl
theorem ii_33 : isIface Try.prog 33 = some false := by kernel_rfl
theorem ap_33 : appOk Try.prog 33 = true := by kernel_rfl
theorem by_33 : byOf Try.prog 33 = 8 := by kernel_rfl
theorem sz_34 : szOf Try.prog 34 = 1 := by kernel_rfl
theorem so_34 : szO Try.prog 34 = some 1 := by kernel_rfl
theorem ag_34 : isAg Try.prog 34 = some false := by kernel_rfl
theorem sh_34 : shapes Try.prog 10 34 = [.sl 1] := by kernel_rfl
theorem ze_34 : zeroC Try.prog 34 = some [.v (.slice none 0 0)] := by kernel_rfl
theorem ii_34 : isIface Try.prog 34 = some false := by kernel_rfl
theorem el_34 : elemOfS Try.prog 34 = some 23 := by kernel_rfl
theorem un_34 : Try.prog.underlying 34 = some (.slice 23) := by kernel_rfl
theorem ap_34 : appOk Try.prog 34 = true := by kernel_rfl
theorem by_34 : byOf Try.prog 34 = 24 := by kernel_rfl
theorem sz_35 : szOf Try.prog 35 = 1 := by kernel_rfl
theorem so_35 : szO Try.prog 35 = some 1 := by kernel_rfl
theorem ag_35 : isAg Try.prog 35 = some false := by kernel_rfl
theorem sh_35 : shapes Try.prog 10 35 = [.sl 1] := by kernel_rfl
theorem ze_35 : zeroC Try.prog 35 = some [.v (.slice none 0 0)] := by kernel_rfl
theorem ii_35 : isIface Try.prog 35 = some false := by kernel_rfl
theorem el_35 : elemOfS Try.prog 35 = some 9 := by kernel_rfl
theorem un_35 : Try.prog.underlying 35 = some (.slice 9) := by kernel_rfl
theorem ap_35 : appOk Try.prog 35 = true := by kernel_rfl
theorem by_35 : byOf Try.prog 35 = 24 := by kernel_rfl
theorem sz_36 : szOf Try.prog 36 = 4 := by kernel_rfl
theorem so_36 : szO Try.prog 36 = some 4 := by kernel_rfl
theorem ag_36 : isAg Try.prog 36 = some true := by kernel_rfl
theorem sh_36 : shapes Try.prog 10 36 = [.int .i64, .int .i64, .str, .sl 1] := by kernel_rfl
theorem ze_36 : zeroC Try.prog 36 = some [.v (.int .i64 0), .v (.int .i64 0), .v (.string ⟨#[]⟩), .v (.slice none 0 0)] := by kernel_rfl
theorem ii_36 : isIface Try.prog 36 = some false := by kernel_rfl
theorem zv_36 : zeroV Try.prog 36 = some (.agg [.v (.int .i64 0), .v (.int .i64 0), .v (.string ⟨#[]⟩), .v (.slice none 0 0)]) := by kernel_rfl
theorem fo_36_0 : fieldOf Try.prog 36 0 = some (0, 31) := by kernel_rfl
theorem pl_36_0 : placesA Try.prog 36 0 = some (0, 1) := by kernel_rfl
theorem fo_36_1 : fieldOf Try.prog 36 1 = some (1, 3) := by kernel_rfl
theorem pl_36_1 : placesA Try.prog 36 1 = some (1, 1) := by kernel_rfl
theorem fo_36_2 : fieldOf Try.prog 36 2 = some (2, 9) := by kernel_rfl
theorem pl_36_2 : placesA Try.prog 36 2 = some (2, 1) := by kernel_rfl
theorem fo_36_3 : fieldOf Try.prog 36 3 = some (3, 35) := by kernel_rfl
theorem pl_36_3 : placesA Try.prog 36 3 = some (3, 1) := by kernel_rfl
theorem ap_36 : appOk Try.prog 36 = true := by kernel_rfl
theorem pd_36 : placed Try.prog 36 = true := by kernel_rfl
theorem by_36 : byOf Try.prog 36 = 56 := by kernel_rfl
theorem sz_37 : szOf Try.prog 37 = 4 := by kernel_rfl
theorem so_37 : szO Try.prog 37 = some 4 := by kernel_rfl
theorem ag_37 : isAg Try.prog 37 = some true := by kernel_rfl
theorem sh_37 : shapes Try.prog 10 37 = [.int .i64, .int .i64, .str, .sl 1] := by kernel_rfl
theorem ze_37 : zeroC Try.prog 37 = some [.v (.int .i64 0), .v (.int .i64 0), .v (.string ⟨#[]⟩), .v (.slice none 0 0)] := by kernel_rfl
theorem ii_37 : isIface Try.prog 37 = some false := by kernel_rfl
theorem zv_37 : zeroV Try.prog 37 = some (.agg [.v (.int .i64 0), .v (.int .i64 0), .v (.string ⟨#[]⟩), .v (.slice none 0 0)]) := by kernel_rfl
theorem fo_37_0 : fieldOf Try.prog 37 0 = some (0, 31) := by kernel_rfl
theorem pl_37_0 : placesA Try.prog 37 0 = some (0, 1) := by kernel_rfl
theorem fo_37_1 : fieldOf Try.prog 37 1 = some (1, 3) := by kernel_rfl
theorem pl_37_1 : placesA Try.prog 37 1 = some (1, 1) := by kernel_rfl
theorem fo_37_2 : fieldOf Try.prog 37 2 = some (2, 9) := by kernel_rfl
theorem pl_37_2 : placesA Try.prog 37 2 = some (2, 1) := by kernel_rfl
theorem fo_37_3 : fieldOf Try.prog 37 3 = some (3, 35) := by kernel_rfl
theorem pl_37_3 : placesA Try.prog 37 3 = some (3, 1) := by kernel_rfl
theorem ap_37 : appOk Try.prog 37 = true := by kernel_rfl
theorem pd_37 : placed Try.prog 37 = true := by kernel_rfl
theorem by_37 : byOf Try.prog 37 = 56 := by kernel_rfl
theorem sz_39 : szOf Try.prog 39 = 1 := by kernel_rfl
theorem so_39 : szO Try.prog 39 = some 1 := by kernel_rfl
theorem ag_39 : isAg Try.prog 39 = some false := by kernel_rfl
theorem sh_39 : shapes Try.prog 10 39 = [.other] := by kernel_rfl
theorem ze_39 : zeroC Try.prog 39 = some [.v .nilFunc] := by kernel_rfl
theorem ii_39 : isIface Try.prog 39 = some false := by kernel_rfl
theorem ap_39 : appOk Try.prog 39 = true := by kernel_rfl
theorem by_39 : byOf Try.prog 39 = 8 := by kernel_rfl
theorem sz_40 : szOf Try.prog 40 = 1 := by kernel_rfl
theorem so_40 : szO Try.prog 40 = some 1 := by kernel_rfl
theorem ag_40 : isAg Try.prog 40 = some false := by kernel_rfl
theorem sh_40 : shapes Try.prog 10 40 = [.other] := by kernel_rfl
theorem ze_40 : zeroC Try.prog 40 = some [.v .nilFunc] := by kernel_rfl
theorem ii_40 : isIface Try.prog 40 = some false := by kernel_rfl
theorem ap_40 : appOk Try.prog 40 = true := by kernel_rfl
theorem by_40 : byOf Try.prog 40 = 8 := by kernel_rfl
theorem sz_41 : szOf Try.prog 41 = 1 := by kernel_rfl
theorem so_41 : szO Try.prog 41 = some 1 := by kernel_rfl
theorem ag_41 : isAg Try.prog 41 = some false := by kernel_rfl
theorem sh_41 : shapes Try.prog 10 41 = [.other] := by kernel_rfl
theorem ze_41 : zeroC Try.prog 41 = some [.v .nilFunc] := by kernel_rfl
theorem ii_41 : isIface Try.prog 41 = some false := by kernel_rfl
theorem ap_41 : appOk Try.prog 41 = true := by kernel_rfl
theorem by_41 : byOf Try.prog 41 = 8 := by kernel_rfl
theorem sz_42 : szOf Try.prog 42 = 1 := by kernel_rfl
theorem so_42 : szO Try.prog 42 = some 1 := by kernel_rfl
theorem ag_42 : isAg Try.prog 42 = some false := by kernel_rfl
theorem sh_42 : shapes Try.prog 10 42 = [.other] := by kernel_rfl
theorem ze_42 : zeroC Try.prog 42 = some [.v .nilFunc] := by kernel_rfl
theorem ii_42 : isIface Try.prog 42 = some false := by kernel_rfl
theorem ap_42 : appOk Try.prog 42 = true := by kernel_rfl
theorem by_42 : byOf Try.prog 42 = 8 := by kernel_rfl
theorem sz_43 : szOf Try.prog 43 = 1 := by kernel_rfl
theorem so_43 : szO Try.prog 43 = some 1 := by kernel_rfl
theorem ag_43 : isAg Try.prog 43 = some false := by kernel_rfl
theorem sh_43 : shapes Try.prog 10 43 = [.other] := by kernel_rfl
theorem ze_43 : zeroC Try.prog 43 = some [.v .nilFunc] := by kernel_rfl
theorem ii_43 : isIface Try.prog 43 = some false := by kernel_rfl
theorem ap_43 : appOk Try.prog 43 = true := by kernel_rfl
theorem by_43 : byOf Try.prog 43 = 8 := by kernel_rfl
theorem sz_44 : szOf Try.prog 44 = 1 := by kernel_rfl
theorem so_44 : szO Try.prog 44 = some 1 := by kernel_rfl
theorem ag_44 : isAg Try.prog 44 = some false := by kernel_rfl
theorem sh_44 : shapes Try.prog 10 44 = [.other] := by kernel_rfl
theorem ze_44 : zeroC Try.prog 44 = some [.v .nilFunc] := by kernel_rfl
theorem ii_44 : isIface Try.prog 44 = some false := by kernel_rfl
theorem ap_44 : appOk Try.prog 44 = true := by kernel_rfl
theorem by_44 : byOf Try.prog 44 = 8 := by kernel_rfl
theorem sz_45 : szOf Try.prog 45 = 1 := by kernel_rfl
theorem so_45 : szO Try.prog 45 = some 1 := by kernel_rfl
theorem ag_45 : isAg Try.prog 45 = some false := by kernel_rfl
theorem sh_45 : shapes Try.prog 10 45 = [.sl 2] := by kernel_rfl
theorem ze_45 : zeroC Try.prog 45 = some [.v (.slice none 0 0)] := by kernel_rfl
theorem ii_45 : isIface Try.prog 45 = some false := by kernel_rfl
theorem el_45 : elemOfS Try.prog 45 = some 58 := by kernel_rfl
theorem un_45 : Try.prog.underlying 45 = some (.slice 58) := by kernel_rfl
theorem ap_45 : appOk Try.prog 45 = true := by kernel_rfl
theorem by_45 : byOf Try.prog 45 = 24 := by kernel_rfl
theorem sz_46 : szOf Try.prog 46 = 6 := by kernel_rfl
theorem so_46 : szO Try.prog 46 = some 6 := by kernel_rfl
theorem ag_46 : isAg Try.prog 46 = some true := by kernel_rfl
theorem sh_46 : shapes Try.prog 10 46 = [.str, .str, .int .i64, .int .i64, .str, .sl 2] := by kernel_rfl
theorem ze_46 : zeroC Try.prog 46 = some [.v (.string ⟨#[]⟩), .v (.string ⟨#[]⟩), .v (.int .i64 0), .v (.int .i64 0), .v (.string ⟨#[]⟩), .v (.slice none 0 0)] := by kernel_rfl
theorem ii_46 : isIface Try.prog 46 = some false := by kernel_rfl
theorem zv_46 : zeroV Try.prog 46 = some (.agg [.v (.string ⟨#[]⟩), .v (.string ⟨#[]⟩), .v (.int .i64 0), .v (.int .i64 0), .v (.string ⟨#[]⟩), .v (.slice none 0 0)]) := by kernel_rfl
theorem fo_46_0 : fieldOf Try.prog 46 0 = some (0, 9) := by kernel_rfl
theorem pl_46_0 : placesA Try.prog 46 0 = some (0, 1) := by kernel_rfl
theorem fo_46_1 : fieldOf Try.prog 46 1 = some (1, 9) := by kernel_rfl
theorem pl_46_1 : placesA Try.prog 46 1 = some (1, 1) := by kernel_rfl
theorem fo_46_2 : fieldOf Try.prog 46 2 = some (2, 3) := by kernel_rfl
theorem pl_46_2 : placesA Try.prog 46 2 = some (2, 1) := by kernel_rfl
theorem fo_46_3 : fieldOf Try.prog 46 3 = some (3, 3) := by kernel_rfl
theorem pl_46_3 : placesA Try.prog 46 3 = some (3, 1) := by kernel_rfl
theorem fo_46_4 : fieldOf Try.prog 46 4 = some (4, 9) := by kernel_rfl
theorem pl_46_4 : placesA Try.prog 46 4 = some (4, 1) := by kernel_rfl
theorem fo_46_5 : fieldOf Try.prog 46 5 = some (5, 45) := by kernel_rfl
theorem pl_46_5 : placesA Try.prog 46 5 = some (5, 1) := by kernel_rfl
theorem ap_46 : appOk Try.prog 46 = true := by kernel_rfl
theorem pd_46 : placed Try.prog 46 = true := by kernel_rfl
theorem by_46 : byOf Try.prog 46 = 88 := by kernel_rfl
theorem sz_47 : szOf Try.prog 47 = 6 := by kernel_rfl
theorem so_47 : szO Try.prog 47 = some 6 := by kernel_rfl
theorem ag_47 : isAg Try.prog 47 = some true := by kernel_rfl
theorem sh_47 : shapes Try.prog 10 47 = [.str, .str, .int .i64, .int .i64, .str, .sl 2] := by kernel_rfl
theorem ze_47 : zeroC Try.prog 47 = some [.v (.string ⟨#[]⟩), .v (.string ⟨#[]⟩), .v (.int .i64 0), .v (.int .i64 0), .v (.string ⟨#[]⟩), .v (.slice none 0 0)] := by kernel_rfl
theorem ii_47 : isIface Try.prog 47 = some false := by kernel_rfl
theorem zv_47 : zeroV Try.prog 47 = some (.agg [.v (.string ⟨#[]⟩), .v (.string ⟨#[]⟩), .v (.int .i64 0), .v (.int .i64 0), .v (.string ⟨#[]⟩), .v (.slice none 0 0)]) := by kernel_rfl
theorem fo_47_0 : fieldOf Try.prog 47 0 = some (0, 9) := by kernel_rfl
theorem pl_47_0 : placesA Try.prog 47 0 = some (0, 1) := by kernel_rfl
theorem fo_47_1 : fieldOf Try.prog 47 1 = some (1, 9) := by kernel_rfl
theorem pl_47_1 : placesA Try.prog 47 1 = some (1, 1) := by kernel_rfl
theorem fo_47_2 : fieldOf Try.prog 47 2 = some (2, 3) := by kernel_rfl
theorem pl_47_2 : placesA Try.prog 47 2 = some (2, 1) := by kernel_rfl
theorem fo_47_3 : fieldOf Try.prog 47 3 = some (3, 3) := by kernel_rfl
theorem pl_47_3 : placesA Try.prog 47 3 = some (3, 1) := by kernel_rfl
theorem fo_47_4 : fieldOf Try.prog 47 4 = some (4, 9) := by kernel_rfl
theorem pl_47_4 : placesA Try.prog 47 4 = some (4, 1) := by kernel_rfl
theorem fo_47_5 : fieldOf Try.prog 47 5 = some (5, 45) := by kernel_rfl
theorem pl_47_5 : placesA Try.prog 47 5 = some (5, 1) := by kernel_rfl
theorem ap_47 : appOk Try.prog 47 = true := by kernel_rfl
theorem pd_47 : placed Try.prog 47 = true := by kernel_rfl
theorem by_47 : byOf Try.prog 47 = 88 := by kernel_rfl
theorem sz_48 : szOf Try.prog 48 = 1 := by kernel_rfl
theorem so_48 : szO Try.prog 48 = some 1 := by kernel_rfl
theorem ag_48 : isAg Try.prog 48 = some false := by kernel_rfl
theorem sh_48 : shapes Try.prog 10 48 = [.other] := by kernel_rfl
theorem ze_48 : zeroC Try.prog 48 = some [.v .nilFunc] := by kernel_rfl
theorem ii_48 : isIface Try.prog 48 = some false := by kernel_rfl
theorem ap_48 : appOk Try.prog 48 = true := by kernel_rfl
theorem by_48 : byOf Try.prog 48 = 8 := by kernel_rfl
theorem sz_49 : szOf Try.prog 49 = 1 := by kernel_rfl
theorem so_49 : szO Try.prog 49 = some 1 := by kernel_rfl
theorem ag_49 : isAg Try.prog 49 = some false := by kernel_rfl
theorem sh_49 : shapes Try.prog 10 49 = [.other] := by kernel_rfl
theorem ze_49 : zeroC Try.prog 49 = some [.v .nilFunc] := by kernel_rfl
theorem ii_49 : isIface Try.prog 49 = some false := by kernel_rfl
theorem ap_49 : appOk Try.prog 49 = true := by kernel_rfl
theorem by_49 : byOf Try.prog 49 = 8 := by kernel_rfl
theorem sz_50 : szOf Try.prog 50 = 1 := by kernel_rfl
theorem so_50 : szO Try.prog 50 = some 1 := by kernel_rfl
theorem ag_50 : isAg Try.prog 50 = some false := by kernel_rfl
theorem sh_50 : shapes Try.prog 10 50 = [.other] := by kernel_rfl
theorem ze_50 : zeroC Try.prog 50 = some [.v .nilFunc] := by kernel_rfl
theorem ii_50 : isIface Try.prog 50 = some false := by kernel_rfl
theorem ap_50 : appOk Try.prog 50 = true := by kernel_rfl
theorem by_50 : byOf Try.prog 50 = 8 := by kernel_rfl
theorem sz_51 : szOf Try.prog 51 = 1 := by kernel_rfl
theorem so_51 : szO Try.prog 51 = some 1 := by kernel_rfl
theorem ag_51 : isAg Try.prog 51 = some false := by kernel_rfl
theorem sh_51 : shapes Try.prog 10 51 = [.other] := by kernel_rfl
theorem ze_51 : zeroC Try.prog 51 = some [.v .nilFunc] := by kernel_rfl
theorem ii_51 : isIface Try.prog 51 = some false := by kernel_rfl
theorem ap_51 : appOk Try.prog 51 = true := by kernel_rfl
theorem by_51 : byOf Try.prog 51 = 8 := by kernel_rfl
theorem sz_52 : szOf Try.prog 52 = 1 := by kernel_rfl
theorem so_52 : szO Try.prog 52 = some 1 := by kernel_rfl
theorem ag_52 : isAg Try.prog 52 = some false := by kernel_rfl
theorem sh_52 : shapes Try.prog 10 52 = [.other] := by kernel_rfl
theorem ze_52 : zeroC Try.prog 52 = some [.v .nilFunc] := by kernel_rfl
theorem ii_52 : isIface Try.prog 52 = some false := by kernel_rfl
theorem ap_52 : appOk Try.prog 52 = true := by kernel_rfl
theorem by_52 : byOf Try.prog 52 = 8 := by kernel_rfl
theorem sz_53 : szOf Try.prog 53 = 1 := by kernel_rfl
theorem so_53 : szO Try.prog 53 = some 1 := by kernel_rfl
theorem ag_53 : isAg Try.prog 53 = some false := by kernel_rfl
theorem sh_53 : shapes Try.prog 10 53 = [.other] := by kernel_rfl
theorem ze_53 : zeroC Try.prog 53 = some [.v .nilFunc] := by kernel_rfl
theorem ii_53 : isIface Try.prog 53 = some false := by kernel_rfl
theorem ap_53 : appOk Try.prog 53 = true := by kernel_rfl
theorem by_53 : byOf Try.prog 53 = 8 := by kernel_rfl
theorem sz_54 : szOf Try.prog 54 = 1 := by kernel_rfl
theorem so_54 : szO Try.prog 54 = some 1 := by kernel_rfl
theorem ag_54 : isAg Try.prog 54 = some false := by kernel_rfl
theorem sh_54 : shapes Try.prog 10 54 = [.other] := by kernel_rfl
theorem ze_54 : zeroC Try.prog 54 = some [.v .nilFunc] := by kernel_rfl
theorem ii_54 : isIface Try.prog 54 = some false := by kernel_rfl
theorem ap_54 : appOk Try.prog 54 = true := by kernel_rfl
theorem by_54 : byOf Try.prog 54 = 8 := by kernel_rfl
theorem sz_55 : szOf Try.prog 55 = 1 := by kernel_rfl
theorem so_55 : szO Try.prog 55 = some 1 := by kernel_rfl
theorem ag_55 : isAg Try.prog 55 = some false := by kernel_rfl
theorem sh_55 : shapes Try.prog 10 55 = [.other] := by kernel_rfl
theorem ze_55 : zeroC Try.prog 55 = some [.v .nilFunc] := by kernel_rfl
theorem ii_55 : isIface Try.prog 55 = some false := by kernel_rfl
theorem ap_55 : appOk Try.prog 55 = true := by kernel_rfl
theorem by_55 : byOf Try.prog 55 = 8 := by kernel_rfl
theorem sz_56 : szOf Try.prog 56 = 1 := by kernel_rfl
theorem so_56 : szO Try.prog 56 = some 1 := by kernel_rfl
theorem ag_56 : isAg Try.prog 56 = some false := by kernel_rfl
theorem sh_56 : shapes Try.prog 10 56 = [.other] := by kernel_rfl
theorem ze_56 : zeroC Try.prog 56 = some [.v .nilFunc] := by kernel_rfl
theorem ii_56 : isIface Try.prog 56 = some false := by kernel_rfl
theorem ap_56 : appOk Try.prog 56 = true := by kernel_rfl
theorem by_56 : byOf Try.prog 56 = 8 := by kernel_rfl
theorem sz_57 : szOf Try.prog 57 = 2 := by kernel_rfl
theorem so_57 : szO Try.prog 57 = some 2 := by kernel_rfl
theorem ag_57 : isAg Try.prog 57 = some true := by kernel_rfl
theorem sh_57 : shapes Try.prog 10 57 = [.int .i64, .str] := by kernel_rfl
theorem ze_57 : zeroC Try.prog 57 = some [.v (.int .i64 0), .v (.string ⟨#[]⟩)] := by kernel_rfl
theorem ii_57 : isIface Try.prog 57 = some false := by kernel_rfl
theorem zv_57 : zeroV Try.prog 57 = some (.agg [.v (.int .i64 0), .v (.string ⟨#[]⟩)]) := by kernel_rfl
theorem fs_57 : flatSh Try.prog 57 = some [.int .i64, .str] := by kernel_rfl
theorem fo_57_0 : fieldOf Try.prog 57 0 = some (0, 3) := by kernel_rfl
theorem pl_57_0 : placesA Try.prog 57 0 = some (0, 1) := by kernel_rfl
theorem fo_57_1 : fieldOf Try.prog 57 1 = some (1, 9) := by kernel_rfl
theorem pl_57_1 : placesA Try.prog 57 1 = some (1, 1) := by kernel_rfl
theorem ap_57 : appOk Try.prog 57 = true := by kernel_rfl
theorem pd_57 : placed Try.prog 57 = true := by kernel_rfl
theorem by_57 : byOf Try.prog 57 = 24 := by kernel_rfl
theorem sz_58 : szOf Try.prog 58 = 2 := by kernel_rfl
theorem so_58 : szO Try.prog 58 = some 2 := by kernel_rfl
theorem ag_58 : isAg Try.prog 58 = some true := by kernel_rfl
theorem sh_58 : shapes Try.prog 10 58 = [.int .i64, .str] := by kernel_rfl
theorem ze_58 : zeroC Try.prog 58 = some [.v (.int .i64 0), .v (.string ⟨#[]⟩)] := by kernel_rfl
theorem ii_58 : isIface Try.prog 58 = some false := by kernel_rfl
theorem zv_58 : zeroV Try.prog 58 = some (.agg [.v (.int .i64 0), .v (.string ⟨#[]⟩)]) := by kernel_rfl
theorem fs_58 : flatSh Try.prog 58 = some [.int .i64, .str] := by kernel_rfl
theorem fo_58_0 : fieldOf Try.prog 58 0 = some (0, 3) := by kernel_rfl
theorem pl_58_0 : placesA Try.prog 58 0 = some (0, 1) := by kernel_rfl
theorem fo_58_1 : fieldOf Try.prog 58 1 = some (1, 9) := by kernel_rfl
theorem pl_58_1 : placesA Try.prog 58 1 = some (1, 1) := by kernel_rfl
theorem ap_58 : appOk Try.prog 58 = true := by kernel_rfl
theorem pd_58 : placed Try.prog 58 = true := by kernel_rfl
theorem by_58 : byOf Try.prog 58 = 24 := by kernel_rfl
theorem sz_59 : szOf Try.prog 59 = 1 := by kernel_rfl
theorem so_59 : szO Try.prog 59 = some 1 := by kernel_rfl
theorem ag_59 : isAg Try.prog 59 = some false := by kernel_rfl
theorem ze_59 : zeroC Try.prog 59 = some [.v (.pointer none)] := by kernel_rfl
theorem ii_59 : isIface Try.prog 59 = some false := by kernel_rfl
theorem pt_59 : ptrOf Try.prog 59 = some 62 := by kernel_rfl
theorem ap_59 : appOk Try.prog 59 = true := by kernel_rfl
theorem by_59 : byOf Try.prog 59 = 8 := by kernel_rfl
theorem sz_60 : szOf Try.prog 60 = 1 := by kernel_rfl
theorem so_60 : szO Try.prog 60 = some 1 := by kernel_rfl
theorem ag_60 : isAg Try.prog 60 = some false := by kernel_rfl
theorem sh_60 : shapes Try.prog 10 60 = [.other] := by kernel_rfl
theorem ze_60 : zeroC Try.prog 60 = some [.v .nilFunc] := by kernel_rfl
theorem ii_60 : isIface Try.prog 60 = some false := by kernel_rfl
theorem ap_60 : appOk Try.prog 60 = true := by kernel_rfl
theorem by_60 : byOf Try.prog 60 = 8 := by kernel_rfl
theorem sz_61 : szOf Try.prog 61 = 10 := by kernel_rfl
theorem so_61 : szO Try.prog 61 = some 10 := by kernel_rfl
theorem ag_61 : isAg Try.prog 61 = some true := by kernel_rfl
theorem sh_61 : shapes Try.prog 10 61 = [.sl 6, .int .i64, .str, .str, .int .i64, .str, .int .i64, .str, .int .i64, .bool] := by kernel_rfl
theorem ze_61 : zeroC Try.prog 61 = some [.v (.slice none 0 0), .v (.int .i64 0), .v (.string ⟨#[]⟩), .v (.string ⟨#[]⟩), .v (.int .i64 0), .v (.string ⟨#[]⟩), .v (.int .i64 0), .v (.string ⟨#[]⟩), .v (.int .i64 0), .v (.bool false)] := by kernel_rfl
theorem ii_61 : isIface Try.prog 61 = some false := by kernel_rfl
theorem zv_61 : zeroV Try.prog 61 = some (.agg [.v (.slice none 0 0), .v (.int .i64 0), .v (.string ⟨#[]⟩), .v (.string ⟨#[]⟩), .v (.int .i64 0), .v (.string ⟨#[]⟩), .v (.int .i64 0), .v (.string ⟨#[]⟩), .v (.int .i64 0), .v (.bool false)]) := by kernel_rfl
theorem fo_61_0 : fieldOf Try.prog 61 0 = some (0, 23) := by kernel_rfl
theorem pl_61_0 : placesA Try.prog 61 0 = some (0, 1) := by kernel_rfl
theorem fo_61_1 : fieldOf Try.prog 61 1 = some (1, 26) := by kernel_rfl
theorem pl_61_1 : placesA Try.prog 61 1 = some (1, 7) := by kernel_rfl
theorem fo_61_2 : fieldOf Try.prog 61 2 = some (8, 3) := by kernel_rfl
theorem pl_61_2 : placesA Try.prog 61 2 = some (8, 1) := by kernel_rfl
theorem fo_61_3 : fieldOf Try.prog 61 3 = some (9, 4) := by kernel_rfl
theorem pl_61_3 : placesA Try.prog 61 3 = some (9, 1) := by kernel_rfl
theorem ap_61 : appOk Try.prog 61 = true := by kernel_rfl
theorem pd_61 : placed Try.prog 61 = true := by kernel_rfl
theorem by_61 : byOf Try.prog 61 = 128 := by kernel_rfl
theorem sz_62 : szOf Try.prog 62 = 10 := by kernel_rfl
theorem so_62 : szO Try.prog 62 = some 10 := by kernel_rfl
theorem ag_62 : isAg Try.prog 62 = some true := by kernel_rfl
theorem sh_62 : shapes Try.prog 10 62 = [.sl 6, .int .i64, .str, .str, .int .i64, .str, .int .i64, .str, .int .i64, .bool] := by kernel_rfl
theorem ze_62 : zeroC Try.prog 62 = some [.v (.slice none 0 0), .v (.int .i64 0), .v (.string ⟨#[]⟩), .v (.string ⟨#[]⟩), .v (.int .i64 0), .v (.string ⟨#[]⟩), .v (.int .i64 0), .v (.string ⟨#[]⟩), .v (.int .i64 0), .v (.bool false)] := by kernel_rfl
theorem ii_62 : isIface Try.prog 62 = some false := by kernel_rfl
theorem zv_62 : zeroV Try.prog 62 = some (.agg [.v (.slice none 0 0), .v (.int .i64 0), .v (.string ⟨#[]⟩), .v (.string ⟨#[]⟩), .v (.int .i64 0), .v (.string ⟨#[]⟩), .v (.int .i64 0), .v (.string ⟨#[]⟩), .v (.int .i64 0), .v (.bool false)]) := by kernel_rfl
theorem fo_62_0 : fieldOf Try.prog 62 0 = some (0, 23) := by kernel_rfl
theorem pl_62_0 : placesA Try.prog 62 0 = some (0, 1) := by kernel_rfl
theorem fo_62_1 : fieldOf Try.prog 62 1 = some (1, 26) := by kernel_rfl
theorem pl_62_1 : placesA Try.prog 62 1 = some (1, 7) := by kernel_rfl
theorem fo_62_2 : fieldOf Try.prog 62 2 = some (8, 3) := by kernel_rfl
theorem pl_62_2 : placesA Try.prog 62 2 = some (8, 1) := by kernel_rfl
theorem fo_62_3 : fieldOf Try.prog 62 3 = some (9, 4) := by kernel_rfl
theorem pl_62_3 : placesA Try.prog 62 3 = some (9, 1) := by kernel_rfl
theorem ap_62 : appOk Try.prog 62 = true := by kernel_rfl
theorem pd_62 : placed Try.prog 62 = true := by kernel_rfl
theorem by_62 : byOf Try.prog 62 = 128 := by kernel_rfl
theorem sz_63 : szOf Try.prog 63 = 1 := by kernel_rfl
theorem so_63 : szO Try.prog 63 = some 1 := by kernel_rfl
theorem ag_63 : isAg Try.prog 63 = some false := by kernel_rfl
theorem sh_63 : shapes Try.prog 10 63 = [.other] := by kernel_rfl
theorem ze_63 : zeroC Try.prog 63 = some [.v .nilFunc] := by kernel_rfl
theorem ii_63 : isIface Try.prog 63 = some false := by kernel_rfl
theorem ap_63 : appOk Try.prog 63 = true := by kernel_rfl
theorem by_63 : byOf Try.prog 63 = 8 := by kernel_rfl
theorem sz_64 : szOf Try.prog 64 = 1 := by kernel_rfl
theorem so_64 : szO Try.prog 64 = some 1 := by kernel_rfl
theorem ag_64 : isAg Try.prog 64 = some false := by kernel_rfl
theorem sh_64 : shapes Try.prog 10 64 = [.other] := by kernel_rfl
theorem ze_64 : zeroC Try.prog 64 = some [.v .nilFunc] := by kernel_rfl
theorem ii_64 : isIface Try.prog 64 = some false := by kernel_rfl
theorem ap_64 : appOk Try.prog 64 = true := by kernel_rfl
theorem by_64 : byOf Try.prog 64 = 8 := by kernel_rfl
theorem sz_66 : szOf Try.prog 66 = 1 := by kernel_rfl
theorem so_66 : szO Try.prog 66 = some 1 := by kernel_rfl
theorem ag_66 : isAg Try.prog 66 = some false := by kernel_rfl
theorem sh_66 : shapes Try.prog 10 66 = [.other] := by kernel_rfl
theorem ze_66 : zeroC Try.prog 66 = some [.v .nilFunc] := by kernel_rfl
theorem ii_66 : isIface Try.prog 66 = some false := by kernel_rfl
theorem ap_66 : appOk Try.prog 66 = true := by kernel_rfl
theorem by_66 : byOf Try.prog 66 = 8 := by kernel_rfl
theorem sz_67 : szOf Try.prog 67 = 1 := by kernel_rfl
theorem so_67 : szO Try.prog 67 = some 1 := by kernel_rfl
theorem ag_67 : isAg Try.prog 67 = some false := by kernel_rfl
theorem sh_67 : shapes Try.prog 10 67 = [.other] := by kernel_rfl
theorem ze_67 : zeroC Try.prog 67 = some [.v .nilFunc] := by kernel_rfl
theorem ii_67 : isIface Try.prog 67 = some false := by kernel_rfl
theorem ap_67 : appOk Try.prog 67 = true := by kernel_rfl
theorem by_67 : byOf Try.prog 67 = 8 := by kernel_rfl
theorem sz_68 : szOf Try.prog 68 = 1 := by kernel_rfl
theorem so_68 : szO Try.prog 68 = some 1 := by kernel_rfl
theorem ag_68 : isAg Try.prog 68 = some false := by kernel_rfl
theorem sh_68 : shapes Try.prog 10 68 = [.other] := by kernel_rfl
theorem ze_68 : zeroC Try.prog 68 = some [.v .nilFunc] := by kernel_rfl
theorem ii_68 : isIface Try.prog 68 = some false := by kernel_rfl
theorem ap_68 : appOk Try.prog 68 = true := by kernel_rfl
theorem by_68 : byOf Try.prog 68 = 8 := by kernel_rfl
theorem sz_69 : szOf Try.prog 69 = 1 := by kernel_rfl
theorem so_69 : szO Try.prog 69 = some 1 := by kernel_rfl
theorem ag_69 : isAg Try.prog 69 = some false := by kernel_rfl
theorem ze_69 : zeroC Try.prog 69 = some [.v (.map none)] := by kernel_rfl
theorem ii_69 : isIface Try.prog 69 = some false := by kernel_rfl
theorem mo_69 : mapOk Try.prog 69 = true := by kernel_rfl
theorem ap_69 : appOk Try.prog 69 = true := by kernel_rfl
theorem by_69 : byOf Try.prog 69 = 8 := by kernel_rfl
theorem sz_70 : szOf Try.prog 70 = 1 := by kernel_rfl
theorem so_70 : szO Try.prog 70 = some 1 := by kernel_rfl
theorem ag_70 : isAg Try.prog 70 = some false := by kernel_rfl
theorem sh_70 : shapes Try.prog 10 70 = [.other] := by kernel_rfl
theorem ze_70 : zeroC Try.prog 70 = some [.v .nilFunc] := by kernel_rfl
theorem ii_70 : isIface Try.prog 70 = some false := by kernel_rfl
theorem ap_70 : appOk Try.prog 70 = true := by kernel_rfl
theorem by_70 : byOf Try.prog 70 = 8 := by kernel_rfl
theorem sz_71 : szOf Try.prog 71 = 1 := by kernel_rfl
theorem so_71 : szO Try.prog 71 = some 1 := by kernel_rfl
theorem ag_71 : isAg Try.prog 71 = some false := by kernel_rfl
theorem sh_71 : shapes Try.prog 10 71 = [.other] := by kernel_rfl
theorem ze_71 : zeroC Try.prog 71 = some [.v .nilFunc] := by kernel_rfl
theorem ii_71 : isIface Try.prog 71 = some false := by kernel_rfl
theorem ap_71 : appOk Try.prog 71 = true := by kernel_rfl
theorem by_71 : byOf Try.prog 71 = 8 := by kernel_rfl
theorem sz_72 : szOf Try.prog 72 = 1 := by kernel_rfl
theorem so_72 : szO Try.prog 72 = some 1 := by kernel_rfl
theorem ag_72 : isAg Try.prog 72 = some false := by kernel_rfl
theorem sh_72 : shapes Try.prog 10 72 = [.other] := by kernel_rfl
theorem ze_72 : zeroC Try.prog 72 = some [.v .nilFunc] := by kernel_rfl
theorem ii_72 : isIface Try.prog 72 = some false := by kernel_rfl
theorem ap_72 : appOk Try.prog 72 = true := by kernel_rfl
theorem by_72 : byOf Try.prog 72 = 8 := by kernel_rfl
theorem sz_73 : szOf Try.prog 73 = 1 := by kernel_rfl
theorem so_73 : szO Try.prog 73 = some 1 := by kernel_rfl
theorem ag_73 : isAg Try.prog 73 = some false := by kernel_rfl
theorem sh_73 : shapes Try.prog 10 73 = [.other] := by kernel_rfl
theorem ze_73 : zeroC Try.prog 73 = some [.v .nilFunc] := by kernel_rfl
theorem ii_73 : isIface Try.prog 73 = some false := by kernel_rfl
theorem ap_73 : appOk Try.prog 73 = true := by kernel_rfl
theorem by_73 : byOf Try.prog 73 = 8 := by kernel_rfl
theorem sz_74 : szOf Try.prog 74 = 1 := by kernel_rfl
theorem so_74 : szO Try.prog 74 = some 1 := by kernel_rfl
theorem ag_74 : isAg Try.prog 74 = some false := by kernel_rfl
theorem sh_74 : shapes Try.prog 10 74 = [.other] := by kernel_rfl
theorem ze_74 : zeroC Try.prog 74 = some [.v .nilFunc] := by kernel_rfl
theorem ii_74 : isIface Try.prog 74 = some false := by kernel_rfl
theorem ap_74 : appOk Try.prog 74 = true := by kernel_rfl
theorem by_74 : byOf Try.prog 74 = 8 := by kernel_rfl
theorem sz_75 : szOf Try.prog 75 = 1 := by kernel_rfl
theorem so_75 : szO Try.prog 75 = some 1 := by kernel_rfl
theorem ag_75 : isAg Try.prog 75 = some false := by kernel_rfl
theorem sh_75 : shapes Try.prog 10 75 = [.other] := by kernel_rfl
theorem ze_75 : zeroC Try.prog 75 = some [.v .nilFunc] := by kernel_rfl
theorem ii_75 : isIface Try.prog 75 = some false := by kernel_rfl
theorem ap_75 : appOk Try.prog 75 = true := by kernel_rfl
theorem by_75 : byOf Try.prog 75 = 8 := by kernel_rfl
theorem sz_76 : szOf Try.prog 76 = 1 := by kernel_rfl
theorem so_76 : szO Try.prog 76 = some 1 := by kernel_rfl
theorem ag_76 : isAg Try.prog 76 = some false := by kernel_rfl
theorem sh_76 : shapes Try.prog 10 76 = [.other] := by kernel_rfl
theorem ze_76 : zeroC Try.prog 76 = some [.v .nilFunc] := by kernel_rfl
theorem ii_76 : isIface Try.prog 76 = some false := by kernel_rfl
theorem ap_76 : appOk Try.prog 76 = true := by kernel_rfl
theorem by_76 : byOf Try.prog 76 = 8 := by kernel_rfl
theorem sz_77 : szOf Try.prog 77 = 1 := by kernel_rfl
theorem so_77 : szO Try.prog 77 = some 1 := by kernel_rfl
theorem ag_77 : isAg Try.prog 77 = some false := by kernel_rfl
theorem sh_77 : shapes Try.prog 10 77 = [.sl 1] := by kernel_rfl
theorem ze_77 : zeroC Try.prog 77 = some [.v (.slice none 0 0)] := by kernel_rfl
theorem ii_77 : isIface Try.prog 77 = some false := by kernel_rfl
theorem el_77 : elemOfS Try.prog 77 = some 5 := by kernel_rfl
theorem un_77 : Try.prog.underlying 77 = some (.slice 5) := by kernel_rfl
theorem ap_77 : appOk Try.prog 77 = true := by kernel_rfl
theorem by_77 : byOf Try.prog 77 = 24 := by kernel_rfl
theorem sz_78 : szOf Try.prog 78 = 1 := by kernel_rfl
theorem so_78 : szO Try.prog 78 = some 1 := by kernel_rfl
theorem ag_78 : isAg Try.prog 78 = some false := by kernel_rfl
theorem sh_78 : shapes Try.prog 10 78 = [.int .u64] := by kernel_rfl
theorem ze_78 : zeroC Try.prog 78 = some [.v (.int .u64 0)] := by kernel_rfl
theorem ii_78 : isIface Try.prog 78 = some false := by kernel_rfl
theorem zv_78 : zeroV Try.prog 78 = some (.v (.int .u64 0)) := by kernel_rfl
theorem un_78 : Try.prog.underlying 78 = some (.int .u64) := by kernel_rfl
theorem ap_78 : appOk Try.prog 78 = true := by kernel_rfl
theorem by_78 : byOf Try.prog 78 = 8 := by kernel_rfl
theorem sz_79 : szOf Try.prog 79 = 1 := by kernel_rfl
theorem so_79 : szO Try.prog 79 = some 1 := by kernel_rfl
theorem ag_79 : isAg Try.prog 79 = some false := by kernel_rfl
theorem sh_79 : shapes Try.prog 10 79 = [.other] := by kernel_rfl
theorem ze_79 : zeroC Try.prog 79 = some [.v .nilFunc] := by kernel_rfl
theorem ii_79 : isIface Try.prog 79 = some false := by kernel_rfl
theorem ap_79 : appOk Try.prog 79 = true := by kernel_rfl
theorem by_79 : byOf Try.prog 79 = 8 := by kernel_rfl
theorem sz_80 : szOf Try.prog 80 = 1 := by kernel_rfl
theorem so_80 : szO Try.prog 80 = some 1 := by kernel_rfl
theorem ag_80 : isAg Try.prog 80 = some false := by kernel_rfl
theorem sh_80 : shapes Try.prog 10 80 = [.other] := by kernel_rfl
theorem ze_80 : zeroC Try.prog 80 = some [.v .nilFunc] := by kernel_rfl
theorem ii_80 : isIface Try.prog 80 = some false := by kernel_rfl
theorem ap_80 : appOk Try.prog 80 = true := by kernel_rfl
theorem by_80 : byOf Try.prog 80 = 8 := by kernel_rfl
theorem sz_81 : szOf Try.prog 81 = 1 := by kernel_rfl
theorem so_81 : szO Try.prog 81 = some 1 := by kernel_rfl
theorem ag_81 : isAg Try.prog 81 = some false := by kernel_rfl
theorem sh_81 : shapes Try.prog 10 81 = [.other] := by kernel_rfl
theorem ze_81 : zeroC Try.prog 81 = some [.v .nilFunc] := by kernel_rfl
theorem ii_81 : isIface Try.prog 81 = some false := by kernel_rfl
theorem ap_81 : appOk Try.prog 81 = true := by kernel_rfl
theorem by_81 : byOf Try.prog 81 = 8 := by kernel_rfl
theorem sz_82 : szOf Try.prog 82 = 1 := by kernel_rfl
theorem so_82 : szO Try.prog 82 = some 1 := by kernel_rfl
theorem ag_82 : isAg Try.prog 82 = some false := by kernel_rfl
theorem ze_82 : zeroC Try.prog 82 = some [.v (.pointer none)] := by kernel_rfl
theorem ii_82 : isIface Try.prog 82 = some false := by kernel_rfl
theorem pt_82 : ptrOf Try.prog 82 = some 47 := by kernel_rfl
theorem ap_82 : appOk Try.prog 82 = true := by kernel_rfl
theorem by_82 : byOf Try.prog 82 = 8 := by kernel_rfl
theorem sz_83 : szOf Try.prog 83 = 1 := by kernel_rfl
theorem so_83 : szO Try.prog 83 = some 1 := by kernel_rfl
theorem ag_83 : isAg Try.prog 83 = some false := by kernel_rfl
theorem sh_83 : shapes Try.prog 10 83 = [.other] := by kernel_rfl
theorem ze_83 : zeroC Try.prog 83 = some [.v .nilFunc] := by kernel_rfl
theorem ii_83 : isIface Try.prog 83 = some false := by kernel_rfl
theorem ap_83 : appOk Try.prog 83 = true := by kernel_rfl
theorem by_83 : byOf Try.prog 83 = 8 := by kernel_rfl
theorem sz_84 : szOf Try.prog 84 = 1 := by kernel_rfl
theorem so_84 : szO Try.prog 84 = some 1 := by kernel_rfl
theorem ag_84 : isAg Try.prog 84 = some false := by kernel_rfl
theorem sh_84 : shapes Try.prog 10 84 = [.other] := by kernel_rfl
theorem ze_84 : zeroC Try.prog 84 = some [.v .nilFunc] := by kernel_rfl
theorem ii_84 : isIface Try.prog 84 = some false := by kernel_rfl
theorem ap_84 : appOk Try.prog 84 = true := by kernel_rfl
theorem by_84 : byOf Try.prog 84 = 8 := by kernel_rfl
theorem sz_85 : szOf Try.prog 85 = 1 := by kernel_rfl
theorem so_85 : szO Try.prog 85 = some 1 := by kernel_rfl
theorem ag_85 : isAg Try.prog 85 = some false := by kernel_rfl
theorem sh_85 : shapes Try.prog 10 85 = [.other] := by kernel_rfl
theorem ze_85 : zeroC Try.prog 85 = some [.v .nilFunc] := by kernel_rfl
theorem ii_85 : isIface Try.prog 85 = some false := by kernel_rfl
theorem ap_85 : appOk Try.prog 85 = true := by kernel_rfl
theorem by_85 : byOf Try.prog 85 = 8 := by kernel_rfl
theorem sz_86 : szOf Try.prog 86 = 1 := by kernel_rfl
theorem so_86 : szO Try.prog 86 = some 1 := by kernel_rfl
theorem ag_86 : isAg Try.prog 86 = some false := by kernel_rfl
theorem sh_86 : shapes Try.prog 10 86 = [.other] := by kernel_rfl
theorem ze_86 : zeroC Try.prog 86 = some [.v .nilFunc] := by kernel_rfl
theorem ii_86 : isIface Try.prog 86 = some false := by kernel_rfl
theorem ap_86 : appOk Try.prog 86 = true := by kernel_rfl
theorem by_86 : byOf Try.prog 86 = 8 := by kernel_rfl
theorem sz_87 : szOf Try.prog 87 = 1 := by kernel_rfl
theorem so_87 : szO Try.prog 87 = some 1 := by kernel_rfl
theorem ag_87 : isAg Try.prog 87 = some false := by kernel_rfl
theorem sh_87 : shapes Try.prog 10 87 = [.other] := by kernel_rfl
theorem ze_87 : zeroC Try.prog 87 = some [.v .nilFunc] := by kernel_rfl
theorem ii_87 : isIface Try.prog 87 = some false := by kernel_rfl
theorem ap_87 : appOk Try.prog 87 = true := by kernel_rfl
theorem by_87 : byOf Try.prog 87 = 8 := by kernel_rfl
theorem sz_88 : szOf Try.prog 88 = 1 := by kernel_rfl
theorem so_88 : szO Try.prog 88 = some 1 := by kernel_rfl
theorem ag_88 : isAg Try.prog 88 = some false := by kernel_rfl
theorem sh_88 : shapes Try.prog 10 88 = [.other] := by kernel_rfl
theorem ze_88 : zeroC Try.prog 88 = some [.v .nilFunc] := by kernel_rfl
theorem ii_88 : isIface Try.prog 88 = some false := by kernel_rfl
theorem ap_88 : appOk Try.prog 88 = true := by kernel_rfl
theorem by_88 : byOf Try.prog 88 = 8 := by kernel_rfl
theorem sz_89 : szOf Try.prog 89 = 1 := by kernel_rfl
theorem so_89 : szO Try.prog 89 = some 1 := by kernel_rfl
theorem ag_89 : isAg Try.prog 89 = some false := by kernel_rfl
theorem sh_89 : shapes Try.prog 10 89 = [.other] := by kernel_rfl
theorem ze_89 : zeroC Try.prog 89 = some [.v .nilFunc] := by kernel_rfl
theorem ii_89 : isIface Try.prog 89 = some false := by kernel_rfl
theorem ap_89 : appOk Try.prog 89 = true := by kernel_rfl
theorem by_89 : byOf Try.prog 89 = 8 := by kernel_rfl
theorem sz_90 : szOf Try.prog 90 = 1 := by kernel_rfl
theorem so_90 : szO Try.prog 90 = some 1 := by kernel_rfl
theorem ag_90 : isAg Try.prog 90 = some false := by kernel_rfl
theorem sh_90 : shapes Try.prog 10 90 = [.other] := by kernel_rfl
theorem ze_90 : zeroC Try.prog 90 = some [.v .nilFunc] := by kernel_rfl
theorem ii_90 : isIface Try.prog 90 = some false := by kernel_rfl
theorem ap_90 : appOk Try.prog 90 = true := by kernel_rfl
theorem by_90 : byOf Try.prog 90 = 8 := by kernel_rfl
theorem sz_91 : szOf Try.prog 91 = 1 := by kernel_rfl
theorem so_91 : szO Try.prog 91 = some 1 := by kernel_rfl
theorem ag_91 : isAg Try.prog 91 = some false := by kernel_rfl
theorem sh_91 : shapes Try.prog 10 91 = [.other] := by kernel_rfl
theorem ze_91 : zeroC Try.prog 91 = some [.v .nilFunc] := by kernel_rfl
theorem ii_91 : isIface Try.prog 91 = some false := by kernel_rfl
theorem ap_91 : appOk Try.prog 91 = true := by kernel_rfl
theorem by_91 : byOf Try.prog 91 = 8 := by kernel_rfl
theorem sz_92 : szOf Try.prog 92 = 1 := by kernel_rfl
theorem so_92 : szO Try.prog 92 = some 1 := by kernel_rfl
theorem ag_92 : isAg Try.prog 92 = some false := by kernel_rfl
theorem sh_92 : shapes Try.prog 10 92 = [.other] := by kernel_rfl
theorem ze_92 : zeroC Try.prog 92 = some [.v .nilFunc] := by kernel_rfl
theorem ii_92 : isIface Try.prog 92 = some false := by kernel_rfl
theorem ap_92 : appOk Try.prog 92 = true := by kernel_rfl
theorem by_92 : byOf Try.prog 92 = 8 := by kernel_rfl
theorem sz_93 : szOf Try.prog 93 = 1 := by kernel_rfl
theorem so_93 : szO Try.prog 93 = some 1 := by kernel_rfl
theorem ag_93 : isAg Try.prog 93 = some false := by kernel_rfl
theorem sh_93 : shapes Try.prog 10 93 = [.other] := by kernel_rfl
theorem ze_93 : zeroC Try.prog 93 = some [.v .nilFunc] := by kernel_rfl
theorem ii_93 : isIface Try.prog 93 = some false := by kernel_rfl
theorem ap_93 : appOk Try.prog 93 = true := by kernel_rfl
theorem by_93 : byOf Try.prog 93 = 8 := by kernel_rfl
theorem sz_94 : szOf Try.prog 94 = 1 := by kernel_rfl
theorem so_94 : szO Try.prog 94 = some 1 := by kernel_rfl
theorem ag_94 : isAg Try.prog 94 = some false := by kernel_rfl
theorem sh_94 : shapes Try.prog 10 94 = [.other] := by kernel_rfl
theorem ze_94 : zeroC Try.prog 94 = some [.v .nilFunc] := by kernel_rfl
theorem ii_94 : isIface Try.prog 94 = some false := by kernel_rfl
theorem ap_94 : appOk Try.prog 94 = true := by kernel_rfl
theorem by_94 : byOf Try.prog 94 = 8 := by kernel_rfl
theorem sz_95 : szOf Try.prog 95 = 1 := by kernel_rfl
theorem so_95 : szO Try.prog 95 = some 1 := by kernel_rfl
theorem ag_95 : isAg Try.prog 95 = some false := by kernel_rfl
theorem sh_95 : shapes Try.prog 10 95 = [.other] := by kernel_rfl
theorem ze_95 : zeroC Try.prog 95 = some [.v .nilFunc] := by kernel_rfl
theorem ii_95 : isIface Try.prog 95 = some false := by kernel_rfl
theorem ap_95 : appOk Try.prog 95 = true := by kernel_rfl
theorem by_95 : byOf Try.prog 95 = 8 := by kernel_rfl
theorem sz_96 : szOf Try.prog 96 = 1 := by kernel_rfl
theorem so_96 : szO Try.prog 96 = some 1 := by kernel_rfl
theorem ag_96 : isAg Try.prog 96 = some false := by kernel_rfl
theorem sh_96 : shapes Try.prog 10 96 = [.other] := by kernel_rfl
theorem ze_96 : zeroC Try.prog 96 = some [.v .nilFunc] := by kernel_rfl
theorem ii_96 : isIface Try.prog 96 = some false := by kernel_rfl
theorem ap_96 : appOk Try.prog 96 = true := by kernel_rfl
theorem by_96 : byOf Try.prog 96 = 8 := by kernel_rfl
theorem sz_97 : szOf Try.prog 97 = 4 := by kernel_rfl
theorem so_97 : szO Try.prog 97 = some 4 := by kernel_rfl
theorem ag_97 : isAg Try.prog 97 = some true := by kernel_rfl
theorem ze_97 : zeroC Try.prog 97 = some [.v (.pointer none), .v (.pointer none), .v (.pointer none), .v (.string ⟨#[]⟩)] := by kernel_rfl
theorem ii_97 : isIface Try.prog 97 = some false := by kernel_rfl
theorem zv_97 : zeroV Try.prog 97 = some (.agg [.v (.pointer none), .v (.pointer none), .v (.pointer none), .v (.string ⟨#[]⟩)]) := by kernel_rfl
theorem fo_97_0 : fieldOf Try.prog 97 0 = some (0, 17) := by kernel_rfl
theorem pl_97_0 : placesA Try.prog 97 0 = some (0, 1) := by kernel_rfl
theorem fo_97_1 : fieldOf Try.prog 97 1 = some (1, 17) := by kernel_rfl
theorem pl_97_1 : placesA Try.prog 97 1 = some (1, 1) := by kernel_rfl
theorem fo_97_2 : fieldOf Try.prog 97 2 = some (2, 17) := by kernel_rfl
theorem pl_97_2 : placesA Try.prog 97 2 = some (2, 1) := by kernel_rfl
theorem fo_97_3 : fieldOf Try.prog 97 3 = some (3, 9) := by kernel_rfl
theorem pl_97_3 : placesA Try.prog 97 3 = some (3, 1) := by kernel_rfl
theorem ap_97 : appOk Try.prog 97 = true := by kernel_rfl
theorem pd_97 : placed Try.prog 97 = true := by kernel_rfl
theorem by_97 : byOf Try.prog 97 = 40 := by kernel_rfl
theorem sz_98 : szOf Try.prog 98 = 4 := by kernel_rfl
theorem so_98 : szO Try.prog 98 = some 4 := by kernel_rfl
theorem ag_98 : isAg Try.prog 98 = some true := by kernel_rfl
theorem ze_98 : zeroC Try.prog 98 = some [.v (.pointer none), .v (.pointer none), .v (.pointer none), .v (.string ⟨#[]⟩)] := by kernel_rfl
theorem ii_98 : isIface Try.prog 98 = some false := by kernel_rfl
theorem zv_98 : zeroV Try.prog 98 = some (.agg [.v (.pointer none), .v (.pointer none), .v (.pointer none), .v (.string ⟨#[]⟩)]) := by kernel_rfl
theorem fo_98_0 : fieldOf Try.prog 98 0 = some (0, 17) := by kernel_rfl
theorem pl_98_0 : placesA Try.prog 98 0 = some (0, 1) := by kernel_rfl
theorem fo_98_1 : fieldOf Try.prog 98 1 = some (1, 17) := by kernel_rfl
theorem pl_98_1 : placesA Try.prog 98 1 = some (1, 1) := by kernel_rfl
theorem fo_98_2 : fieldOf Try.prog 98 2 = some (2, 17) := by kernel_rfl
theorem pl_98_2 : placesA Try.prog 98 2 = some (2, 1) := by kernel_rfl
theorem fo_98_3 : fieldOf Try.prog 98 3 = some (3, 9) := by kernel_rfl
theorem pl_98_3 : placesA Try.prog 98 3 = some (3, 1) := by kernel_rfl
theorem ap_98 : appOk Try.prog 98 = true := by kernel_rfl
theorem pd_98 : placed Try.prog 98 = true := by kernel_rfl
theorem by_98 : byOf Try.prog 98 = 40 := by kernel_rfl
theorem sz_99 : szOf Try.prog 99 = 0 := by kernel_rfl
theorem so_99 : szO Try.prog 99 = some 0 := by kernel_rfl
theorem ag_99 : isAg Try.prog 99 = some true := by kernel_rfl
theorem sh_99 : shapes Try.prog 10 99 = [] := by kernel_rfl
theorem ze_99 : zeroC Try.prog 99 = some [] := by kernel_rfl
theorem ii_99 : isIface Try.prog 99 = some false := by kernel_rfl
theorem ar_99 : arrOf Try.prog 99 = some (0, 16) := by kernel_rfl
theorem pl_99 (i : Nat) : placesA Try.prog 99 i = some (i * szOf Try.prog 16, szOf Try.prog 16) := by kernel_rfl
theorem pd_99 : placed Try.prog 99 = true := by kernel_rfl
theorem by_99 : byOf Try.prog 99 = 0 := by kernel_rfl
theorem sz_100 : szOf Try.prog 100 = 0 := by kernel_rfl
theorem so_100 : szO Try.prog 100 = some 0 := by kernel_rfl
theorem ag_100 : isAg Try.prog 100 = some true := by kernel_rfl
theorem sh_100 : shapes Try.prog 10 100 = [] := by kernel_rfl
theorem ze_100 : zeroC Try.prog 100 = some [] := by kernel_rfl
theorem ii_100 : isIface Try.prog 100 = some false := by kernel_rfl
theorem zv_100 : zeroV Try.prog 100 = some (.agg []) := by kernel_rfl
theorem fo_100_0 : fieldOf Try.prog 100 0 = some (0, 99) := by kernel_rfl
theorem pl_100_0 : placesA Try.prog 100 0 = some (0, 0) := by kernel_rfl
theorem pd_100 : placed Try.prog 100 = true := by kernel_rfl
theorem by_100 : byOf Try.prog 100 = 0 := by kernel_rfl
theorem sz_101 : szOf Try.prog 101 = 0 := by kernel_rfl
theorem so_101 : szO Try.prog 101 = some 0 := by kernel_rfl
theorem ag_101 : isAg Try.prog 101 = some true := by kernel_rfl
theorem sh_101 : shapes Try.prog 10 101 = [] := by kernel_rfl
theorem ze_101 : zeroC Try.prog 101 = some [] := by kernel_rfl
theorem ii_101 : isIface Try.prog 101 = some false := by kernel_rfl
theorem zv_101 : zeroV Try.prog 101 = some (.agg []) := by kernel_rfl
theorem fo_101_0 : fieldOf Try.prog 101 0 = some (0, 99) := by kernel_rfl
theorem pl_101_0 : placesA Try.prog 101 0 = some (0, 0) := by kernel_rfl
theorem pd_101 : placed Try.prog 101 = true := by kernel_rfl
theorem by_101 : byOf Try.prog 101 = 0 := by kernel_rfl
theorem sz_102 : szOf Try.prog 102 = 1 := by kernel_rfl
theorem so_102 : szO Try.prog 102 = some 1 := by kernel_rfl
theorem ag_102 : isAg Try.prog 102 = some false := by kernel_rfl
theorem sh_102 : shapes Try.prog 10 102 = [.int .u32] := by kernel_rfl
theorem ze_102 : zeroC Try.prog 102 = some [.v (.int .u32 0)] := by kernel_rfl
theorem ii_102 : isIface Try.prog 102 = some false := by kernel_rfl
theorem zv_102 : zeroV Try.prog 102 = some (.v (.int .u32 0)) := by kernel_rfl
theorem un_102 : Try.prog.underlying 102 = some (.int .u32) := by kernel_rfl
theorem ap_102 : appOk Try.prog 102 = true := by kernel_rfl
theorem by_102 : byOf Try.prog 102 = 4 := by kernel_rfl
theorem sz_103 : szOf Try.prog 103 = 1 := by kernel_rfl
theorem so_103 : szO Try.prog 103 = some 1 := by kernel_rfl
theorem ag_103 : isAg Try.prog 103 = some false := by kernel_rfl
theorem sh_103 : shapes Try.prog 10 103 = [.int .u8] := by kernel_rfl
theorem ze_103 : zeroC Try.prog 103 = some [.v (.int .u8 0)] := by kernel_rfl
theorem ii_103 : isIface Try.prog 103 = some false := by kernel_rfl
theorem zv_103 : zeroV Try.prog 103 = some (.v (.int .u8 0)) := by kernel_rfl
theorem un_103 : Try.prog.underlying 103 = some (.int .u8) := by kernel_rfl
theorem ap_103 : appOk Try.prog 103 = true := by kernel_rfl
theorem by_103 : byOf Try.prog 103 = 1 := by kernel_rfl
theorem sz_104 : szOf Try.prog 104 = 1 := by kernel_rfl
theorem so_104 : szO Try.prog 104 = some 1 := by kernel_rfl
theorem ag_104 : isAg Try.prog 104 = some false := by kernel_rfl
theorem sh_104 : shapes Try.prog 10 104 = [.int .u8] := by kernel_rfl
theorem ze_104 : zeroC Try.prog 104 = some [.v (.int .u8 0)] := by kernel_rfl
theorem ii_104 : isIface Try.prog 104 = some false := by kernel_rfl
theorem zv_104 : zeroV Try.prog 104 = some (.v (.int .u8 0)) := by kernel_rfl
theorem un_104 : Try.prog.underlying 104 = some (.int .u8) := by kernel_rfl
theorem ap_104 : appOk Try.prog 104 = true := by kernel_rfl
theorem by_104 : byOf Try.prog 104 = 1 := by kernel_rfl
theorem sz_105 : szOf Try.prog 105 = 1 := by kernel_rfl
theorem so_105 : szO Try.prog 105 = some 1 := by kernel_rfl
theorem ag_105 : isAg Try.prog 105 = some false := by kernel_rfl
theorem sh_105 : shapes Try.prog 10 105 = [.other] := by kernel_rfl
theorem ze_105 : zeroC Try.prog 105 = some [.v .nilFunc] := by kernel_rfl
theorem ii_105 : isIface Try.prog 105 = some false := by kernel_rfl
theorem ap_105 : appOk Try.prog 105 = true := by kernel_rfl
theorem by_105 : byOf Try.prog 105 = 8 := by kernel_rfl
theorem sz_106 : szOf Try.prog 106 = 1 := by kernel_rfl
theorem so_106 : szO Try.prog 106 = some 1 := by kernel_rfl
theorem ag_106 : isAg Try.prog 106 = some false := by kernel_rfl
theorem ze_106 : zeroC Try.prog 106 = some [.v (.pointer none)] := by kernel_rfl
theorem ii_106 : isIface Try.prog 106 = some false := by kernel_rfl
theorem pt_106 : ptrOf Try.prog 106 = some 5 := by kernel_rfl
theorem ap_106 : appOk Try.prog 106 = true := by kernel_rfl
theorem by_106 : byOf Try.prog 106 = 8 := by kernel_rfl
theorem sz_107 : szOf Try.prog 107 = 1 := by kernel_rfl
theorem so_107 : szO Try.prog 107 = some 1 := by kernel_rfl
theorem ag_107 : isAg Try.prog 107 = some false := by kernel_rfl
theorem sh_107 : shapes Try.prog 10 107 = [.int .i32] := by kernel_rfl
theorem ze_107 : zeroC Try.prog 107 = some [.v (.int .i32 0)] := by kernel_rfl
theorem ii_107 : isIface Try.prog 107 = some false := by kernel_rfl
theorem zv_107 : zeroV Try.prog 107 = some (.v (.int .i32 0)) := by kernel_rfl
theorem un_107 : Try.prog.underlying 107 = some (.int .i32) := by kernel_rfl
theorem ap_107 : appOk Try.prog 107 = true := by kernel_rfl
theorem by_107 : byOf Try.prog 107 = 4 := by kernel_rfl
theorem sz_108 : szOf Try.prog 108 = 1 := by kernel_rfl
theorem so_108 : szO Try.prog 108 = some 1 := by kernel_rfl
theorem ag_108 : isAg Try.prog 108 = some false := by kernel_rfl
theorem sh_108 : shapes Try.prog 10 108 = [.int .i32] := by kernel_rfl
theorem ze_108 : zeroC Try.prog 108 = some [.v (.int .i32 0)] := by kernel_rfl
theorem ii_108 : isIface Try.prog 108 = some false := by kernel_rfl
theorem zv_108 : zeroV Try.prog 108 = some (.v (.int .i32 0)) := by kernel_rfl
theorem un_108 : Try.prog.underlying 108 = some (.int .i32) := by kernel_rfl
theorem ap_108 : appOk Try.prog 108 = true := by kernel_rfl
theorem by_108 : byOf Try.prog 108 = 4 := by kernel_rfl
theorem sz_109 : szOf Try.prog 109 = 11 := by kernel_rfl
theorem so_109 : szO Try.prog 109 = some 11 := by kernel_rfl
theorem ag_109 : isAg Try.prog 109 = some true := by kernel_rfl
theorem ze_109 : zeroC Try.prog 109 = some [.v (.int .u64 0), .v (.int .u64 0), .v (.int .u32 0), .v (.int .u8 0), .v (.int .u8 0), .v (.int .u8 0), .v (.int .u8 0), .v .nilFunc, .v (.pointer none), .v (.int .i32 0), .v (.int .i32 0)] := by kernel_rfl
theorem ii_109 : isIface Try.prog 109 = some false := by kernel_rfl
theorem zv_109 : zeroV Try.prog 109 = some (.agg [.v (.int .u64 0), .v (.int .u64 0), .v (.int .u32 0), .v (.int .u8 0), .v (.int .u8 0), .v (.int .u8 0), .v (.int .u8 0), .v .nilFunc, .v (.pointer none), .v (.int .i32 0), .v (.int .i32 0)]) := by kernel_rfl
theorem fo_109_0 : fieldOf Try.prog 109 0 = some (0, 12) := by kernel_rfl
theorem pl_109_0 : placesA Try.prog 109 0 = some (0, 1) := by kernel_rfl
theorem fo_109_1 : fieldOf Try.prog 109 1 = some (1, 12) := by kernel_rfl
theorem pl_109_1 : placesA Try.prog 109 1 = some (1, 1) := by kernel_rfl
theorem fo_109_2 : fieldOf Try.prog 109 2 = some (2, 102) := by kernel_rfl
theorem pl_109_2 : placesA Try.prog 109 2 = some (2, 1) := by kernel_rfl
theorem fo_109_3 : fieldOf Try.prog 109 3 = some (3, 103) := by kernel_rfl
theorem pl_109_3 : placesA Try.prog 109 3 = some (3, 1) := by kernel_rfl
theorem fo_109_4 : fieldOf Try.prog 109 4 = some (4, 5) := by kernel_rfl
theorem pl_109_4 : placesA Try.prog 109 4 = some (4, 1) := by kernel_rfl
theorem fo_109_5 : fieldOf Try.prog 109 5 = some (5, 5) := by kernel_rfl
theorem pl_109_5 : placesA Try.prog 109 5 = some (5, 1) := by kernel_rfl
theorem fo_109_6 : fieldOf Try.prog 109 6 = some (6, 104) := by kernel_rfl
theorem pl_109_6 : placesA Try.prog 109 6 = some (6, 1) := by kernel_rfl
theorem fo_109_7 : fieldOf Try.prog 109 7 = some (7, 105) := by kernel_rfl
theorem pl_109_7 : placesA Try.prog 109 7 = some (7, 1) := by kernel_rfl
theorem fo_109_8 : fieldOf Try.prog 109 8 = some (8, 106) := by kernel_rfl
theorem pl_109_8 : placesA Try.prog 109 8 = some (8, 1) := by kernel_rfl
theorem fo_109_9 : fieldOf Try.prog 109 9 = some (9, 107) := by kernel_rfl
theorem pl_109_9 : placesA Try.prog 109 9 = some (9, 1) := by kernel_rfl
theorem fo_109_10 : fieldOf Try.prog 109 10 = some (10, 108) := by kernel_rfl
theorem pl_109_10 : placesA Try.prog 109 10 = some (10, 1) := by kernel_rfl
theorem ap_109 : appOk Try.prog 109 = true := by kernel_rfl
theorem pd_109 : placed Try.prog 109 = true := by kernel_rfl
theorem by_109 : byOf Try.prog 109 = 48 := by kernel_rfl
theorem sz_110 : szOf Try.prog 110 = 11 := by kernel_rfl
theorem so_110 : szO Try.prog 110 = some 11 := by kernel_rfl
theorem ag_110 : isAg Try.prog 110 = some true := by kernel_rfl
theorem ze_110 : zeroC Try.prog 110 = some [.v (.int .u64 0), .v (.int .u64 0), .v (.int .u32 0), .v (.int .u8 0), .v (.int .u8 0), .v (.int .u8 0), .v (.int .u8 0), .v .nilFunc, .v (.pointer none), .v (.int .i32 0), .v (.int .i32 0)] := by kernel_rfl
theorem ii_110 : isIface Try.prog 110 = some false := by kernel_rfl
theorem zv_110 : zeroV Try.prog 110 = some (.agg [.v (.int .u64 0), .v (.int .u64 0), .v (.int .u32 0), .v (.int .u8 0), .v (.int .u8 0), .v (.int .u8 0), .v (.int .u8 0), .v .nilFunc, .v (.pointer none), .v (.int .i32 0), .v (.int .i32 0)]) := by kernel_rfl
theorem fo_110_0 : fieldOf Try.prog 110 0 = some (0, 12) := by kernel_rfl
theorem pl_110_0 : placesA Try.prog 110 0 = some (0, 1) := by kernel_rfl
theorem fo_110_1 : fieldOf Try.prog 110 1 = some (1, 12) := by kernel_rfl
theorem pl_110_1 : placesA Try.prog 110 1 = some (1, 1) := by kernel_rfl
theorem fo_110_2 : fieldOf Try.prog 110 2 = some (2, 102) := by kernel_rfl
theorem pl_110_2 : placesA Try.prog 110 2 = some (2, 1) := by kernel_rfl
theorem fo_110_3 : fieldOf Try.prog 110 3 = some (3, 103) := by kernel_rfl
theorem pl_110_3 : placesA Try.prog 110 3 = some (3, 1) := by kernel_rfl
theorem fo_110_4 : fieldOf Try.prog 110 4 = some (4, 5) := by kernel_rfl
theorem pl_110_4 : placesA Try.prog 110 4 = some (4, 1) := by kernel_rfl
theorem fo_110_5 : fieldOf Try.prog 110 5 = some (5, 5) := by kernel_rfl
theorem pl_110_5 : placesA Try.prog 110 5 = some (5, 1) := by kernel_rfl
theorem fo_110_6 : fieldOf Try.prog 110 6 = some (6, 104) := by kernel_rfl
theorem pl_110_6 : placesA Try.prog 110 6 = some (6, 1) := by kernel_rfl
theorem fo_110_7 : fieldOf Try.prog 110 7 = some (7, 105) := by kernel_rfl
theorem pl_110_7 : placesA Try.prog 110 7 = some (7, 1) := by kernel_rfl
theorem fo_110_8 : fieldOf Try.prog 110 8 = some (8, 106) := by kernel_rfl
theorem pl_110_8 : placesA Try.prog 110 8 = some (8, 1) := by kernel_rfl
theorem fo_110_9 : fieldOf Try.prog 110 9 = some (9, 107) := by kernel_rfl
theorem pl_110_9 : placesA Try.prog 110 9 = some (9, 1) := by kernel_rfl
theorem fo_110_10 : fieldOf Try.prog 110 10 = some (10, 108) := by kernel_rfl
theorem pl_110_10 : placesA Try.prog 110 10 = some (10, 1) := by kernel_rfl
theorem ap_110 : appOk Try.prog 110 = true := by kernel_rfl
theorem pd_110 : placed Try.prog 110 = true := by kernel_rfl
theorem by_110 : byOf Try.prog 110 = 48 := by kernel_rfl
theorem fn_2 : Try.prog.funcs[2]? = some Try.f2 := Try.func2
theorem fn_3 : Try.prog.funcs[3]? = some Try.f3 := Try.func3
theorem fn_4 : Try.prog.funcs[4]? = some Try.f4 := Try.func4
theorem fn_5 : Try.prog.funcs[5]? = some Try.f5 := Try.func5
theorem fn_6 : Try.prog.funcs[6]? = some Try.f6 := Try.func6
theorem fn_7 : Try.prog.funcs[7]? = some Try.f7 := Try.func7
theorem fn_8 : Try.prog.funcs[8]? = some Try.f8 := Try.func8
theorem fn_9 : Try.prog.funcs[9]? = some Try.f9 := Try.func9
theorem fn_10 : Try.prog.funcs[10]? = some Try.f10 := Try.func10
theorem fn_11 : Try.prog.funcs[11]? = some Try.f11 := Try.func11
theorem fn_12 : Try.prog.funcs[12]? = some Try.f12 := Try.func12
theorem fn_13 : Try.prog.funcs[13]? = some Try.f13 := Try.func13
theorem fn_14 : Try.prog.funcs[14]? = some Try.f14 := Try.func14
theorem fn_15 : Try.prog.funcs[15]? = some Try.f15 := Try.func15
theorem fn_16 : Try.prog.funcs[16]? = some Try.f16 := Try.func16
theorem fn_17 : Try.prog.funcs[17]? = some Try.f17 := Try.func17
theorem fn_18 : Try.prog.funcs[18]? = some Try.f18 := Try.func18
theorem fn_19 : Try.prog.funcs[19]? = some Try.f19 := Try.func19
theorem fn_20 : Try.prog.funcs[20]? = some Try.f20 := Try.func20
theorem fn_21 : Try.prog.funcs[21]? = some Try.f21 := Try.func21
theorem fn_22 : Try.prog.funcs[22]? = some Try.f22 := Try.func22
theorem fn_23 : Try.prog.funcs[23]? = some Try.f23 := Try.func23
theorem fn_24 : Try.prog.funcs[24]? = some Try.f24 := Try.func24
theorem fn_25 : Try.prog.funcs[25]? = some Try.f25 := Try.func25
theorem fn_26 : Try.prog.funcs[26]? = some Try.f26 := Try.func26
theorem fn_27 : Try.prog.funcs[27]? = some Try.f27 := Try.func27
theorem fn_28 : Try.prog.funcs[28]? = some Try.f28 := Try.func28
theorem fn_29 : Try.prog.funcs[29]? = some Try.f29 := Try.func29
theorem fn_30 : Try.prog.funcs[30]? = some Try.f30 := Try.func30
theorem fn_31 : Try.prog.funcs[31]? = some Try.f31 := Try.func31
theorem fn_32 : Try.prog.funcs[32]? = some Try.f32 := Try.func32
theorem fn_33 : Try.prog.funcs[33]? = some Try.f33 := Try.func33
theorem fn_34 : Try.prog.funcs[34]? = some Try.f34 := Try.func34
theorem fn_35 : Try.prog.funcs[35]? = some Try.f35 := Try.func35
theorem fn_36 : Try.prog.funcs[36]? = some Try.f36 := Try.func36
theorem fn_37 : Try.prog.funcs[37]? = some Try.f37 := Try.func37
theorem fn_38 : Try.prog.funcs[38]? = some Try.f38 := Try.func38
theorem fn_39 : Try.prog.funcs[39]? = some Try.f39 := Try.func39
theorem fn_40 : Try.prog.funcs[40]? = some Try.f40 := Try.func40
theorem fn_41 : Try.prog.funcs[41]? = some Try.f41 := Try.func41
theorem fn_42 : Try.prog.funcs[42]? = some Try.f42 := Try.func42
theorem fn_43 : Try.prog.funcs[43]? = some Try.f43 := Try.func43
theorem fn_44 : Try.prog.funcs[44]? = some Try.f44 := Try.func44
theorem fn_45 : Try.prog.funcs[45]? = some Try.f45 := Try.func45
theorem fn_46 : Try.prog.funcs[46]? = some Try.f46 := Try.func46
theorem fn_47 : Try.prog.funcs[47]? = some Try.f47 := Try.func47
theorem fn_48 : Try.prog.funcs[48]? = some Try.f48 := Try.func48
theorem fn_49 : Try.prog.funcs[49]? = some Try.f49 := Try.func49
theorem fn_50 : Try.prog.funcs[50]? = some Try.f50 := Try.func50
theorem fn_51 : Try.prog.funcs[51]? = some Try.f51 := Try.func51
theorem fn_52 : Try.prog.funcs[52]? = some Try.f52 := Try.func52
theorem fn_53 : Try.prog.funcs[53]? = some Try.f53 := Try.func53
theorem fn_54 : Try.prog.funcs[54]? = some Try.f54 := Try.func54
theorem fn_55 : Try.prog.funcs[55]? = some Try.f55 := Try.func55
theorem fn_56 : Try.prog.funcs[56]? = some Try.f56 := Try.func56
theorem fn_57 : Try.prog.funcs[57]? = some Try.f57 := Try.func57
theorem fn_58 : Try.prog.funcs[58]? = some Try.f58 := Try.func58
theorem fn_59 : Try.prog.funcs[59]? = some Try.f59 := Try.func59
theorem fn_60 : Try.prog.funcs[60]? = some Try.f60 := Try.func60
theorem fn_61 : Try.prog.funcs[61]? = some Try.f61 := Try.func61
theorem fn_62 : Try.prog.funcs[62]? = some Try.f62 := Try.func62
theorem fn_63 : Try.prog.funcs[63]? = some Try.f63 := Try.func63
theorem fn_64 : Try.prog.funcs[64]? = some Try.f64 := Try.func64
theorem fn_65 : Try.prog.funcs[65]? = some Try.f65 := Try.func65
theorem fn_66 : Try.prog.funcs[66]? = some Try.f66 := Try.func66
theorem fn_67 : Try.prog.funcs[67]? = some Try.f67 := Try.func67
theorem fn_68 : Try.prog.funcs[68]? = some Try.f68 := Try.func68
theorem fn_70 : Try.prog.funcs[70]? = some Try.f70 := Try.func70
theorem fn_71 : Try.prog.funcs[71]? = some Try.f71 := Try.func71
theorem fn_72 : Try.prog.funcs[72]? = some Try.f72 := Try.func72
theorem fn_73 : Try.prog.funcs[73]? = some Try.f73 := Try.func73
theorem fn_75 : Try.prog.funcs[75]? = some Try.f75 := Try.func75
theorem fn_76 : Try.prog.funcs[76]? = some Try.f76 := Try.func76
theorem ok_2 : okF C 2 Try.f2 = true := by kernel_rfl
theorem ok_3 : okF C 3 Try.f3 = true := by kernel_rfl
theorem ok_4 : okF C 4 Try.f4 = true := by kernel_rfl
theorem ok_5 : okF C 5 Try.f5 = true := by kernel_rfl
theorem ok_6 : okF C 6 Try.f6 = true := by kernel_rfl
theorem ok_7 : okF C 7 Try.f7 = true := by kernel_rfl
theorem ok_8 : okF C 8 Try.f8 = true := by kernel_rfl
theorem ok_9 : okF C 9 Try.f9 = true := by kernel_rfl
theorem ok_10 : okF C 10 Try.f10 = true := by kernel_rfl
theorem ok_11 : okF C 11 Try.f11 = true := by kernel_rfl
theorem ok_12 : okF C 12 Try.f12 = true := by kernel_rfl
theorem ok_13 : okF C 13 Try.f13 = true := by kernel_rfl
theorem ok_14 : okF C 14 Try.f14 = true := by kernel_rfl
theorem ok_15 : okF C 15 Try.f15 = true := by kernel_rfl
theorem ok_16 : okF C 16 Try.f16 = true := by kernel_rfl
theorem ok_17 : okF C 17 Try.f17 = true := by kernel_rfl
theorem ok_18 : okF C 18 Try.f18 = true := by kernel_rfl
theorem ok_19 : okF C 19 Try.f19 = true := by kernel_rfl
theorem ok_20 : okF C 20 Try.f20 = true := by kernel_rfl
theorem ok_21 : okF C 21 Try.f21 = true := by kernel_rfl
theorem ok_22 : okF C 22 Try.f22 = true := by kernel_rfl
theorem ok_23 : okF C 23 Try.f23 = true := by kernel_rfl
theorem ok_24 : okF C 24 Try.f24 = true := by kernel_rfl
theorem ok_25 : okF C 25 Try.f25 = true := by kernel_rfl
theorem ok_26 : okF C 26 Try.f26 = true := by kernel_rfl
theorem ok_27 : okF C 27 Try.f27 = true := by kernel_rfl
theorem ok_28 : okF C 28 Try.f28 = true := by kernel_rfl
theorem ok_29 : okF C 29 Try.f29 = true := by kernel_rfl
theorem ok_30 : okF C 30 Try.f30 = true := by kernel_rfl
theorem ok_31 : okF C 31 Try.f31 = true := by kernel_rfl
theorem ok_32 : okF C 32 Try.f32 = true := by kernel_rfl
theorem ok_33 : okF C 33 Try.f33 = true := by kernel_rfl
theorem ok_34 : okF C 34 Try.f34 = true := by kernel_rfl
theorem ok_35 : okF C 35 Try.f35 = true := by kernel_rfl
theorem ok_36 : okF C 36 Try.f36 = true := by kernel_rfl
theorem ok_37 : okF C 37 Try.f37 = true := by kernel_rfl
theorem ok_38 : okF C 38 Try.f38 = true := by kernel_rfl
theorem ok_39 : okF C 39 Try.f39 = true := by kernel_rfl
theorem ok_40 : okF C 40 Try.f40 = true := by kernel_rfl
theorem ok_41 : okF C 41 Try.f41 = true := by kernel_rfl
theorem ok_42 : okF C 42 Try.f42 = true := by kernel_rfl
theorem ok_43 : okF C 43 Try.f43 = true := by kernel_rfl
theorem ok_44 : okF C 44 Try.f44 = true := by kernel_rfl
theorem ok_45 : okF C 45 Try.f45 = true := by kernel_rfl
theorem ok_46 : okF C 46 Try.f46 = true := by kernel_rfl
theorem ok_47 : okF C 47 Try.f47 = true := by kernel_rfl
theorem ok_48 : okF C 48 Try.f48 = true := by kernel_rfl
theorem ok_49 : okF C 49 Try.f49 = true := by kernel_rfl
theorem ok_50 : okF C 50 Try.f50 = true := by kernel_rfl
theorem ok_51 : okF C 51 Try.f51 = true := by kernel_rfl
theorem ok_52 : okF C 52 Try.f52 = true := by kernel_rfl
theorem ok_53 : okF C 53 Try.f53 = true := by kernel_rfl
theorem ok_54 : okF C 54 Try.f54 = true := by kernel_rfl
theorem ok_55 : okF C 55 Try.f55 = true := by kernel_rfl
theorem ok_56 : okF C 56 Try.f56 = true := by kernel_rfl
theorem ok_57 : okF C 57 Try.f57 = true := by kernel_rfl
theorem ok_58 : okF C 58 Try.f58 = true := by kernel_rfl
theorem ok_59 : okF C 59 Try.f59 = true := by kernel_rfl
theorem ok_60 : okF C 60 Try.f60 = true := by kernel_rfl
theorem ok_61 : okF C 61 Try.f61 = true := by kernel_rfl
theorem ok_62 : okF C 62 Try.f62 = true := by kernel_rfl
theorem ok_63 : okF C 63 Try.f63 = true := by kernel_rfl
theorem ok_64 : okF C 64 Try.f64 = true := by kernel_rfl
theorem ok_65 : okF C 65 Try.f65 = true := by kernel_rfl
theorem ok_66 : okF C 66 Try.f66 = true := by kernel_rfl
theorem ok_67 : okF C 67 Try.f67 = true := by kernel_rfl
theorem ok_68 : okF C 68 Try.f68 = true := by kernel_rfl
theorem ok_70 : okF C 70 Try.f70 = true := by kernel_rfl
theorem ok_71 : okF C 71 Try.f71 = true := by kernel_rfl
theorem ok_72 : okF C 72 Try.f72 = true := by kernel_rfl
theorem ok_73 : okF C 73 Try.f73 = true := by kernel_rfl
theorem ok_75 : okF C 75 Try.f75 = true := by kernel_rfl
theorem ok_76 : okF C 76 Try.f76 = true := by kernel_rfl
set_option maxRecDepth 100000
theorem EVF : type_of% (And.intro @sz_1 (And.intro @so_1 (And.intro @ag_1 (And.intro @sh_1 (And.intro @ze_1 (And.intro @ii_1 (And.intro @ap_1 (And.intro @by_1 (And.intro @sz_2 (And.intro @so_2 (And.intro @ag_2 (And.intro @sh_2 (And.intro @ze_2 (And.intro @ii_2 (And.intro @zv_2 (And.intro @un_2 (And.intro @ap_2 (And.intro @by_2 (And.intro @sz_3 (And.intro @so_3 (And.intro @ag_3 (And.intro @sh_3 (And.intro @ze_3 (And.intro @ii_3 (And.intro @zv_3 (And.intro @un_3 (And.intro @ap_3 (And.intro @by_3 (And.intro @sz_4 (And.intro @so_4 (And.intro @ag_4 (And.intro @sh_4 (And.intro @ze_4 (And.intro @ii_4 (And.intro @zv_4 (And.intro @un_4 (And.intro @ap_4 (And.intro @by_4 (And.intro @sz_5 (And.intro @so_5 (And.intro @ag_5 (And.intro @sh_5 (And.intro @ze_5 (And.intro @ii_5 (And.intro @zv_5 (And.intro @un_5 (And.intro @ap_5 (And.intro @by_5 (And.intro @sz_6 (And.intro @so_6 (And.intro @ag_6 (And.intro @sh_6 (And.intro @ze_6 (And.intro @ii_6 (And.intro @zv_6 (And.intro @un_6 (And.intro @ap_6 (And.intro @by_6 (And.intro @sz_7 (And.intro @so_7 (And.intro @ag_7 (And.intro @sh_7 (And.intro @ze_7 (And.intro @ii_7 (And.intro @zv_7 (And.intro @fo_7_0 (And.intro @pl_7_0 (And.intro @fo_7_1 (And.intro @pl_7_1 (And.intro @fo_7_2 (And.intro @pl_7_2 (And.intro @fo_7_3 (And.intro @pl_7_3 (And.intro @ap_7 (And.intro @pd_7 (And.intro @by_7 (And.intro @sz_8 (And.intro @so_8 (And.intro @ag_8 (And.intro @sh_8 (And.intro @ze_8 (And.intro @ii_8 (And.intro @zv_8 (And.intro @fo_8_0 (And.intro @pl_8_0 (And.intro @fo_8_1 (And.intro @pl_8_1 (And.intro @fo_8_2 (And.intro @pl_8_2 (And.intro @fo_8_3 (And.intro @pl_8_3 (And.intro @ap_8 (And.intro @pd_8 (And.intro @by_8 (And.intro @sz_9 (And.intro @so_9 (And.intro @ag_9 (And.intro @sh_9 (And.intro @ze_9 (And.intro @ii_9 (And.intro @zv_9 (And.intro @un_9 (And.intro @ap_9 (And.intro @by_9 (And.intro @sz_10 (And.intro @so_10 (And.intro @ag_10 (And.intro @sh_10 (And.intro @ze_10 (And.intro @ii_10 (And.intro @zv_10 (And.intro @un_10 (And.intro @ap_10 (And.intro @by_10 (And.intro @sz_11 (And.intro @so_11 (And.intro @ag_11 (And.intro @sh_11 (And.intro @ze_11 (And.intro @ii_11 (And.intro @zv_11 (And.intro @un_11 (And.intro @ap_11 (And.intro @by_11 (And.intro @sz_12 (And.intro @so_12 (And.intro @ag_12 (And.intro @sh_12 (And.intro @ze_12 (And.intro @ii_12 (And.intro @zv_12 (And.intro @un_12 (And.intro @ap_12 (And.intro @by_12 (And.intro @sz_13 (And.intro @so_13 (And.intro @ag_13 (And.intro @sh_13 (And.intro @ze_13 (And.intro @ii_13 (And.intro @zv_13 (And.intro @fo_13_0 (And.intro @pl_13_0 (And.intro @fo_13_1 (And.intro @pl_13_1 (And.intro @ap_13 (And.intro @pd_13 (And.intro @by_13 (And.intro @sz_14 (And.intro @so_14 (And.intro @ag_14 (And.intro @sh_14 (And.intro @ze_14 (And.intro @ii_14 (And.intro @zv_14 (And.intro @fo_14_0 (And.intro @pl_14_0 (And.intro @fo_14_1 (And.intro @pl_14_1 (And.intro @ap_14 (And.intro @pd_14 (And.intro @by_14 (And.intro @sz_15 (And.intro @so_15 (And.intro @ag_15 (And.intro @ze_15 (And.intro @ii_15 (And.intro @pt_15 (And.intro @ap_15 (And.intro @by_15 (And.intro @sz_16 (And.intro @so_16 (And.intro @ag_16 (And.intro @ze_16 (And.intro @ii_16 (And.intro @pt_16 (And.intro @ap_16 (And.intro @by_16 (And.intro @sz_17 (And.intro @so_17 (And.intro @ag_17 (And.intro @ze_17 (And.intro @ii_17 (And.intro @pt_17 (And.intro @ap_17 (And.intro @by_17 (And.intro @sz_18 (And.intro @so_18 (And.intro @ag_18 (And.intro @ze_18 (And.intro @ii_18 (And.intro @zv_18 (And.intro @fo_18_0 (And.intro @pl_18_0 (And.intro @ap_18 (And.intro @pd_18 (And.intro @by_18 (And.intro @sz_19 (And.intro @so_19 (And.intro @ag_19 (And.intro @ze_19 (And.intro @ii_19 (And.intro @zv_19 (And.intro @fo_19_0 (And.intro @pl_19_0 (And.intro @ap_19 (And.intro @pd_19 (And.intro @by_19 (And.intro @sz_21 (And.intro @so_21 (And.intro @ag_21 (And.intro @sh_21 (And.intro @ze_21 (And.intro @ii_21 (And.intro @zv_21 (And.intro @un_21 (And.intro @ap_21 (And.intro @by_21 (And.intro @sz_22 (And.intro @so_22 (And.intro @ag_22 (And.intro @sh_22 (And.intro @ze_22 (And.intro @ii_22 (And.intro @el_22 (And.intro @un_22 (And.intro @ap_22 (And.intro @by_22 (And.intro @sz_23 (And.intro @so_23 (And.intro @ag_23 (And.intro @sh_23 (And.intro @ze_23 (And.intro @ii_23 (And.intro @el_23 (And.intro @un_23 (And.intro @ap_23 (And.intro @by_23 (And.intro @sz_24 (And.intro @so_24 (And.intro @ag_24 (And.intro @sh_24 (And.intro @ze_24 (And.intro @ii_24 (And.intro @ar_24 (And.intro @pl_24 (And.intro @ap_24 (And.intro @pd_24 (And.intro @by_24 (And.intro @sz_25 (And.intro @so_25 (And.intro @ag_25 (And.intro @sh_25 (And.intro @ze_25 (And.intro @ii_25 (And.intro @zv_25 (And.intro @fs_25 (And.intro @fo_25_0 (And.intro @pl_25_0 (And.intro @fo_25_1 (And.intro @pl_25_1 (And.intro @fo_25_2 (And.intro @pl_25_2 (And.intro @fo_25_3 (And.intro @pl_25_3 (And.intro @fo_25_4 (And.intro @pl_25_4 (And.intro @fo_25_5 (And.intro @pl_25_5 (And.intro @fo_25_6 (And.intro @pl_25_6 (And.intro @ap_25 (And.intro @pd_25 (And.intro @by_25 (And.intro @sz_26 (And.intro @so_26 (And.intro @ag_26 (And.intro @sh_26 (And.intro @ze_26 (And.intro @ii_26 (And.intro @zv_26 (And.intro @fs_26 (And.intro @fo_26_0 (And.intro @pl_26_0 (And.intro @fo_26_1 (And.intro @pl_26_1 (And.intro @fo_26_2 (And.intro @pl_26_2 (And.intro @fo_26_3 (And.intro @pl_26_3 (And.intro @fo_26_4 (And.intro @pl_26_4 (And.intro @fo_26_5 (And.intro @pl_26_5 (And.intro @fo_26_6 (And.intro @pl_26_6 (And.intro @ap_26 (And.intro @pd_26 (And.intro @by_26 (And.intro @sz_27 (And.intro @so_27 (And.intro @ag_27 (And.intro @sh_27 (And.intro @ze_27 (And.intro @ii_27 (And.intro @ap_27 (And.intro @by_27 (And.intro @sz_28 (And.intro @so_28 (And.intro @ag_28 (And.intro @sh_28 (And.intro @ze_28 (And.intro @ii_28 (And.intro @ap_28 (And.intro @by_28 (And.intro @sz_29 (And.intro @so_29 (And.intro @ag_29 (And.intro @sh_29 (And.intro @ze_29 (And.intro @ii_29 (And.intro @el_29 (And.intro @un_29 (And.intro @ap_29 (And.intro @by_29 (And.intro @sz_30 (And.intro @so_30 (And.intro @ag_30 (And.intro @sh_30 (And.intro @ze_30 (And.intro @ii_30 (And.intro @el_30 (And.intro @un_30 (And.intro @ap_30 (And.intro @by_30 (And.intro @sz_31 (And.intro @so_31 (And.intro @ag_31 (And.intro @sh_31 (And.intro @ze_31 (And.intro @ii_31 (And.intro @zv_31 (And.intro @un_31 (And.intro @ap_31 (And.intro @by_31 (And.intro @sz_32 (And.intro @so_32 (And.intro @ag_32 (And.intro @sh_32 (And.intro @ze_32 (And.intro @ii_32 (And.intro @ap_32 (And.intro @by_32 (And.intro @sz_33 (And.intro @so_33 (And.intro @ag_33 (And.intro @sh_33 (And.intro @ze_33 (And.intro @ii_33 (And.intro @ap_33 (And.intro @by_33 (And.intro @sz_34 (And.intro @so_34 (And.intro @ag_34 (And.intro @sh_34 (And.intro @ze_34 (And.intro @ii_34 (And.intro @el_34 (And.intro @un_34 (And.intro @ap_34 (And.intro @by_34 (And.intro @sz_35 (And.intro @so_35 (And.intro @ag_35 (And.intro @sh_35 (And.intro @ze_35 (And.intro @ii_35 (And.intro @el_35 (And.intro @un_35 (And.intro @ap_35 (And.intro @by_35 (And.intro @sz_36 (And.intro @so_36 (And.intro @ag_36 (And.intro @sh_36 (And.intro @ze_36 (And.intro @ii_36 (And.intro @zv_36 (And.intro @fo_36_0 (And.intro @pl_36_0 (And.intro @fo_36_1 (And.intro @pl_36_1 (And.intro @fo_36_2 (And.intro @pl_36_2 (And.intro @fo_36_3 (And.intro @pl_36_3 (And.intro @ap_36 (And.intro @pd_36 (And.intro @by_36 (And.intro @sz_37 (And.intro @so_37 (And.intro @ag_37 (And.intro @sh_37 (And.intro @ze_37 (And.intro @ii_37 (And.intro @zv_37 (And.intro @fo_37_0 (And.intro @pl_37_0 (And.intro @fo_37_1 (And.intro @pl_37_1 (And.intro @fo_37_2 (And.intro @pl_37_2 (And.intro @fo_37_3 (And.intro @pl_37_3 (And.intro @ap_37 (And.intro @pd_37 (And.intro @by_37 (And.intro @sz_39 (And.intro @so_39 (And.intro @ag_39 (And.intro @sh_39 (And.intro @ze_39 (And.intro @ii_39 (And.intro @ap_39 (And.intro @by_39 (And.intro @sz_40 (And.intro @so_40 (And.intro @ag_40 (And.intro @sh_40 (And.intro @ze_40 (And.intro @ii_40 (And.intro @ap_40 (And.intro @by_40 (And.intro @sz_41 (And.intro @so_41 (And.intro @ag_41 (And.intro @sh_41 (And.intro @ze_41 (And.intro @ii_41 (And.intro @ap_41 (And.intro @by_41 (And.intro @sz_42 (And.intro @so_42 (And.intro @ag_42 (And.intro @sh_42 (And.intro @ze_42 (And.intro @ii_42 (And.intro @ap_42 (And.intro @by_42 (And.intro @sz_43 (And.intro @so_43 (And.intro @ag_43 (And.intro @sh_43 (And.intro @ze_43 (And.intro @ii_43 (And.intro @ap_43 (And.intro @by_43 (And.intro @sz_44 (And.intro @so_44 (And.intro @ag_44 (And.intro @sh_44 (And.intro @ze_44 (And.intro @ii_44 (And.intro @ap_44 (And.intro @by_44 (And.intro @sz_45 (And.intro @so_45 (And.intro @ag_45 (And.intro @sh_45 (And.intro @ze_45 (And.intro @ii_45 (And.intro @el_45 (And.intro @un_45 (And.intro @ap_45 (And.intro @by_45 (And.intro @sz_46 (And.intro @so_46 (And.intro @ag_46 (And.intro @sh_46 (And.intro @ze_46 (And.intro @ii_46 (And.intro @zv_46 (And.intro @fo_46_0 (And.intro @pl_46_0 (And.intro @fo_46_1 (And.intro @pl_46_1 (And.intro @fo_46_2 (And.intro @pl_46_2 (And.intro @fo_46_3 (And.intro @pl_46_3 (And.intro @fo_46_4 (And.intro @pl_46_4 (And.intro @fo_46_5 (And.intro @pl_46_5 (And.intro @ap_46 (And.intro @pd_46 (And.intro @by_46 (And.intro @sz_47 (And.intro @so_47 (And.intro @ag_47 (And.intro @sh_47 (And.intro @ze_47 (And.intro @ii_47 (And.intro @zv_47 (And.intro @fo_47_0 (And.intro @pl_47_0 (And.intro @fo_47_1 (And.intro @pl_47_1 (And.intro @fo_47_2 (And.intro @pl_47_2 (And.intro @fo_47_3 (And.intro @pl_47_3 (And.intro @fo_47_4 (And.intro @pl_47_4 (And.intro @fo_47_5 (And.intro @pl_47_5 (And.intro @ap_47 (And.intro @pd_47 (And.intro @by_47 (And.intro @sz_48 (And.intro @so_48 (And.intro @ag_48 (And.intro @sh_48 (And.intro @ze_48 (And.intro @ii_48 (And.intro @ap_48 (And.intro @by_48 (And.intro @sz_49 (And.intro @so_49 (And.intro @ag_49 (And.intro @sh_49 (And.intro @ze_49 (And.intro @ii_49 (And.intro @ap_49 (And.intro @by_49 (And.intro @sz_50 (And.intro @so_50 (And.intro @ag_50 (And.intro @sh_50 (And.intro @ze_50 (And.intro @ii_50 (And.intro @ap_50 (And.intro @by_50 (And.intro @sz_51 (And.intro @so_51 (And.intro @ag_51 (And.intro @sh_51 (And.intro @ze_51 (And.intro @ii_51 (And.intro @ap_51 (And.intro @by_51 (And.intro @sz_52 (And.intro @so_52 (And.intro @ag_52 (And.intro @sh_52 (And.intro @ze_52 (And.intro @ii_52 (And.intro @ap_52 (And.intro @by_52 (And.intro @sz_53 (And.intro @so_53 (And.intro @ag_53 (And.intro @sh_53 (And.intro @ze_53 (And.intro @ii_53 (And.intro @ap_53 (And.intro @by_53 (And.intro @sz_54 (And.intro @so_54 (And.intro @ag_54 (And.intro @sh_54 (And.intro @ze_54 (And.intro @ii_54 (And.intro @ap_54 (And.intro @by_54 (And.intro @sz_55 (And.intro @so_55 (And.intro @ag_55 (And.intro @sh_55 (And.intro @ze_55 (And.intro @ii_55 (And.intro @ap_55 (And.intro @by_55 (And.intro @sz_56 (And.intro @so_56 (And.intro @ag_56 (And.intro @sh_56 (And.intro @ze_56 (And.intro @ii_56 (And.intro @ap_56 (And.intro @by_56 (And.intro @sz_57 (And.intro @so_57 (And.intro @ag_57 (And.intro @sh_57 (And.intro @ze_57 (And.intro @ii_57 (And.intro @zv_57 (And.intro @fs_57 (And.intro @fo_57_0 (And.intro @pl_57_0 (And.intro @fo_57_1 (And.intro @pl_57_1 (And.intro @ap_57 (And.intro @pd_57 (And.intro @by_57 (And.intro @sz_58 (And.intro @so_58 (And.intro @ag_58 (And.intro @sh_58 (And.intro @ze_58 (And.intro @ii_58 (And.intro @zv_58 (And.intro @fs_58 (And.intro @fo_58_0 (And.intro @pl_58_0 (And.intro @fo_58_1 (And.intro @pl_58_1 (And.intro @ap_58 (And.intro @pd_58 (And.intro @by_58 (And.intro @sz_59 (And.intro @so_59 (And.intro @ag_59 (And.intro @ze_59 (And.intro @ii_59 (And.intro @pt_59 (And.intro @ap_59 (And.intro @by_59 (And.intro @sz_60 (And.intro @so_60 (And.intro @ag_60 (And.intro @sh_60 (And.intro @ze_60 (And.intro @ii_60 (And.intro @ap_60 (And.intro @by_60 (And.intro @sz_61 (And.intro @so_61 (And.intro @ag_61 (And.intro @sh_61 (And.intro @ze_61 (And.intro @ii_61 (And.intro @zv_61 (And.intro @fo_61_0 (And.intro @pl_61_0 (And.intro @fo_61_1 (And.intro @pl_61_1 (And.intro @fo_61_2 (And.intro @pl_61_2 (And.intro @fo_61_3 (And.intro @pl_61_3 (And.intro @ap_61 (And.intro @pd_61 (And.intro @by_61 (And.intro @sz_62 (And.intro @so_62 (And.intro @ag_62 (And.intro @sh_62 (And.intro @ze_62 (And.intro @ii_62 (And.intro @zv_62 (And.intro @fo_62_0 (And.intro @pl_62_0 (And.intro @fo_62_1 (And.intro @pl_62_1 (And.intro @fo_62_2 (And.intro @pl_62_2 (And.intro @fo_62_3 (And.intro @pl_62_3 (And.intro @ap_62 (And.intro @pd_62 (And.intro @by_62 (And.intro @sz_63 (And.intro @so_63 (And.intro @ag_63 (And.intro @sh_63 (And.intro @ze_63 (And.intro @ii_63 (And.intro @ap_63 (And.intro @by_63 (And.intro @sz_64 (And.intro @so_64 (And.intro @ag_64 (And.intro @sh_64 (And.intro @ze_64 (And.intro @ii_64 (And.intro @ap_64 (And.intro @by_64 (And.intro @sz_66 (And.intro @so_66 (And.intro @ag_66 (And.intro @sh_66 (And.intro @ze_66 (And.intro @ii_66 (And.intro @ap_66 (And.intro @by_66 (And.intro @sz_67 (And.intro @so_67 (And.intro @ag_67 (And.intro @sh_67 (And.intro @ze_67 (And.intro @ii_67 (And.intro @ap_67 (And.intro @by_67 (And.intro @sz_68 (And.intro @so_68 (And.intro @ag_68 (And.intro @sh_68 (And.intro @ze_68 (And.intro @ii_68 (And.intro @ap_68 (And.intro @by_68 (And.intro @sz_69 (And.intro @so_69 (And.intro @ag_69 (And.intro @ze_69 (And.intro @ii_69 (And.intro @mo_69 (And.intro @ap_69 (And.intro @by_69 (And.intro @sz_70 (And.intro @so_70 (And.intro @ag_70 (And.intro @sh_70 (And.intro @ze_70 (And.intro @ii_70 (And.intro @ap_70 (And.intro @by_70 (And.intro @sz_71 (And.intro @so_71 (And.intro @ag_71 (And.intro @sh_71 (And.intro @ze_71 (And.intro @ii_71 (And.intro @ap_71 (And.intro @by_71 (And.intro @sz_72 (And.intro @so_72 (And.intro @ag_72 (And.intro @sh_72 (And.intro @ze_72 (And.intro @ii_72 (And.intro @ap_72 (And.intro @by_72 (And.intro @sz_73 (And.intro @so_73 (And.intro @ag_73 (And.intro @sh_73 (And.intro @ze_73 (And.intro @ii_73 (And.intro @ap_73 (And.intro @by_73 (And.intro @sz_74 (And.intro @so_74 (And.intro @ag_74 (And.intro @sh_74 (And.intro @ze_74 (And.intro @ii_74 (And.intro @ap_74 (And.intro @by_74 (And.intro @sz_75 (And.intro @so_75 (And.intro @ag_75 (And.intro @sh_75 (And.intro @ze_75 (And.intro @ii_75 (And.intro @ap_75 (And.intro @by_75 (And.intro @sz_76 (And.intro @so_76 (And.intro @ag_76 (And.intro @sh_76 (And.intro @ze_76 (And.intro @ii_76 (And.intro @ap_76 (And.intro @by_76 (And.intro @sz_77 (And.intro @so_77 (And.intro @ag_77 (And.intro @sh_77 (And.intro @ze_77 (And.intro @ii_77 (And.intro @el_77 (And.intro @un_77 (And.intro @ap_77 (And.intro @by_77 (And.intro @sz_78 (And.intro @so_78 (And.intro @ag_78 (And.intro @sh_78 (And.intro @ze_78 (And.intro @ii_78 (And.intro @zv_78 (And.intro @un_78 (And.intro @ap_78 (And.intro @by_78 (And.intro @sz_79 (And.intro @so_79 (And.intro @ag_79 (And.intro @sh_79 (And.intro @ze_79 (And.intro @ii_79 (And.intro @ap_79 (And.intro @by_79 (And.intro @sz_80 (And.intro @so_80 (And.intro @ag_80 (And.intro @sh_80 (And.intro @ze_80 (And.intro @ii_80 (And.intro @ap_80 (And.intro @by_80 (And.intro @sz_81 (And.intro @so_81 (And.intro @ag_81 (And.intro @sh_81 (And.intro @ze_81 (And.intro @ii_81 (And.intro @ap_81 (And.intro @by_81 (And.intro @sz_82 (And.intro @so_82 (And.intro @ag_82 (And.intro @ze_82 (And.intro @ii_82 (And.intro @pt_82 (And.intro @ap_82 (And.intro @by_82 (And.intro @sz_83 (And.intro @so_83 (And.intro @ag_83 (And.intro @sh_83 (And.intro @ze_83 (And.intro @ii_83 (And.intro @ap_83 (And.intro @by_83 (And.intro @sz_84 (And.intro @so_84 (And.intro @ag_84 (And.intro @sh_84 (And.intro @ze_84 (And.intro @ii_84 (And.intro @ap_84 (And.intro @by_84 (And.intro @sz_85 (And.intro @so_85 (And.intro @ag_85 (And.intro @sh_85 (And.intro @ze_85 (And.intro @ii_85 (And.intro @ap_85 (And.intro @by_85 (And.intro @sz_86 (And.intro @so_86 (And.intro @ag_86 (And.intro @sh_86 (And.intro @ze_86 (And.intro @ii_86 (And.intro @ap_86 (And.intro @by_86 (And.intro @sz_87 (And.intro @so_87 (And.intro @ag_87 (And.intro @sh_87 (And.intro @ze_87 (And.intro @ii_87 (And.intro @ap_87 (And.intro @by_87 (And.intro @sz_88 (And.intro @so_88 (And.intro @ag_88 (And.intro @sh_88 (And.intro @ze_88 (And.intro @ii_88 (And.intro @ap_88 (And.intro @by_88 (And.intro @sz_89 (And.intro @so_89 (And.intro @ag_89 (And.intro @sh_89 (And.intro @ze_89 (And.intro @ii_89 (And.intro @ap_89 (And.intro @by_89 (And.intro @sz_90 (And.intro @so_90 (And.intro @ag_90 (And.intro @sh_90 (And.intro @ze_90 (And.intro @ii_90 (And.intro @ap_90 (And.intro @by_90 (And.intro @sz_91 (And.intro @so_91 (And.intro @ag_91 (And.intro @sh_91 (And.intro @ze_91 (And.intro @ii_91 (And.intro @ap_91 (And.intro @by_91 (And.intro @sz_92 (And.intro @so_92 (And.intro @ag_92 (And.intro @sh_92 (And.intro @ze_92 (And.intro @ii_92 (And.intro @ap_92 (And.intro @by_92 (And.intro @sz_93 (And.intro @so_93 (And.intro @ag_93 (And.intro @sh_93 (And.intro @ze_93 (And.intro @ii_93 (And.intro @ap_93 (And.intro @by_93 (And.intro @sz_94 (And.intro @so_94 (And.intro @ag_94 (And.intro @sh_94 (And.intro @ze_94 (And.intro @ii_94 (And.intro @ap_94 (And.intro @by_94 (And.intro @sz_95 (And.intro @so_95 (And.intro @ag_95 (And.intro @sh_95 (And.intro @ze_95 (And.intro @ii_95 (And.intro @ap_95 (And.intro @by_95 (And.intro @sz_96 (And.intro @so_96 (And.intro @ag_96 (And.intro @sh_96 (And.intro @ze_96 (And.intro @ii_96 (And.intro @ap_96 (And.intro @by_96 (And.intro @sz_97 (And.intro @so_97 (And.intro @ag_97 (And.intro @ze_97 (And.intro @ii_97 (And.intro @zv_97 (And.intro @fo_97_0 (And.intro @pl_97_0 (And.intro @fo_97_1 (And.intro @pl_97_1 (And.intro @fo_97_2 (And.intro @pl_97_2 (And.intro @fo_97_3 (And.intro @pl_97_3 (And.intro @ap_97 (And.intro @pd_97 (And.intro @by_97 (And.intro @sz_98 (And.intro @so_98 (And.intro @ag_98 (And.intro @ze_98 (And.intro @ii_98 (And.intro @zv_98 (And.intro @fo_98_0 (And.intro @pl_98_0 (And.intro @fo_98_1 (And.intro @pl_98_1 (And.intro @fo_98_2 (And.intro @pl_98_2 (And.intro @fo_98_3 (And.intro @pl_98_3 (And.intro @ap_98 (And.intro @pd_98 (And.intro @by_98 (And.intro @sz_99 (And.intro @so_99 (And.intro @ag_99 (And.intro @sh_99 (And.intro @ze_99 (And.intro @ii_99 (And.intro @ar_99 (And.intro @pl_99 (And.intro @pd_99 (And.intro @by_99 (And.intro @sz_100 (And.intro @so_100 (And.intro @ag_100 (And.intro @sh_100 (And.intro @ze_100 (And.intro @ii_100 (And.intro @zv_100 (And.intro @fo_100_0 (And.intro @pl_100_0 (And.intro @pd_100 (And.intro @by_100 (And.intro @sz_101 (And.intro @so_101 (And.intro @ag_101 (And.intro @sh_101 (And.intro @ze_101 (And.intro @ii_101 (And.intro @zv_101 (And.intro @fo_101_0 (And.intro @pl_101_0 (And.intro @pd_101 (And.intro @by_101 (And.intro @sz_102 (And.intro @so_102 (And.intro @ag_102 (And.intro @sh_102 (And.intro @ze_102 (And.intro @ii_102 (And.intro @zv_102 (And.intro @un_102 (And.intro @ap_102 (And.intro @by_102 (And.intro @sz_103 (And.intro @so_103 (And.intro @ag_103 (And.intro @sh_103 (And.intro @ze_103 (And.intro @ii_103 (And.intro @zv_103 (And.intro @un_103 (And.intro @ap_103 (And.intro @by_103 (And.intro @sz_104 (And.intro @so_104 (And.intro @ag_104 (And.intro @sh_104 (And.intro @ze_104 (And.intro @ii_104 (And.intro @zv_104 (And.intro @un_104 (And.intro @ap_104 (And.intro @by_104 (And.intro @sz_105 (And.intro @so_105 (And.intro @ag_105 (And.intro @sh_105 (And.intro @ze_105 (And.intro @ii_105 (And.intro @ap_105 (And.intro @by_105 (And.intro @sz_106 (And.intro @so_106 (And.intro @ag_106 (And.intro @ze_106 (And.intro @ii_106 (And.intro @pt_106 (And.intro @ap_106 (And.intro @by_106 (And.intro @sz_107 (And.intro @so_107 (And.intro @ag_107 (And.intro @sh_107 (And.intro @ze_107 (And.intro @ii_107 (And.intro @zv_107 (And.intro @un_107 (And.intro @ap_107 (And.intro @by_107 (And.intro @sz_108 (And.intro @so_108 (And.intro @ag_108 (And.intro @sh_108 (And.intro @ze_108 (And.intro @ii_108 (And.intro @zv_108 (And.intro @un_108 (And.intro @ap_108 (And.intro @by_108 (And.intro @sz_109 (And.intro @so_109 (And.intro @ag_109 (And.intro @ze_109 (And.intro @ii_109 (And.intro @zv_109 (And.intro @fo_109_0 (And.intro @pl_109_0 (And.intro @fo_109_1 (And.intro @pl_109_1 (And.intro @fo_109_2 (And.intro @pl_109_2 (And.intro @fo_109_3 (And.intro @pl_109_3 (And.intro @fo_109_4 (And.intro @pl_109_4 (And.intro @fo_109_5 (And.intro @pl_109_5 (And.intro @fo_109_6 (And.intro @pl_109_6 (And.intro @fo_109_7 (And.intro @pl_109_7 (And.intro @fo_109_8 (And.intro @pl_109_8 (And.intro @fo_109_9 (And.intro @pl_109_9 (And.intro @fo_109_10 (And.intro @pl_109_10 (And.intro @ap_109 (And.intro @pd_109 (And.intro @by_109 (And.intro @sz_110 (And.intro @so_110 (And.intro @ag_110 (And.intro @ze_110 (And.intro @ii_110 (And.intro @zv_110 (And.intro @fo_110_0 (And.intro @pl_110_0 (And.intro @fo_110_1 (And.intro @pl_110_1 (And.intro @fo_110_2 (And.intro @pl_110_2 (And.intro @fo_110_3 (And.intro @pl_110_3 (And.intro @fo_110_4 (And.intro @pl_110_4 (And.intro @fo_110_5 (And.intro @pl_110_5 (And.intro @fo_110_6 (And.intro @pl_110_6 (And.intro @fo_110_7 (And.intro @pl_110_7 (And.intro @fo_110_8 (And.intro @pl_110_8 (And.intro @fo_110_9 (And.intro @pl_110_9 (And.intro @fo_110_10 (And.intro @pl_110_10 (And.intro @ap_110 (And.intro @pd_110 (And.intro @by_110 (And.intro @fn_2 (And.intro @fn_3 (And.intro @fn_4 (And.intro @fn_5 (And.intro @fn_6 (And.intro @fn_7 (And.intro @fn_8 (And.intro @fn_9 (And.intro @fn_10 (And.intro @fn_11 (And.intro @fn_12 (And.intro @fn_13 (And.intro @fn_14 (And.intro @fn_15 (And.intro @fn_16 (And.intro @fn_17 (And.intro @fn_18 (And.intro @fn_19 (And.intro @fn_20 (And.intro @fn_21 (And.intro @fn_22 (And.intro @fn_23 (And.intro @fn_24 (And.intro @fn_25 (And.intro @fn_26 (And.intro @fn_27 (And.intro @fn_28 (And.intro @fn_29 (And.intro @fn_30 (And.intro @fn_31 (And.intro @fn_32 (And.intro @fn_33 (And.intro @fn_34 (And.intro @fn_35 (And.intro @fn_36 (And.intro @fn_37 (And.intro @fn_38 (And.intro @fn_39 (And.intro @fn_40 (And.intro @fn_41 (And.intro @fn_42 (And.intro @fn_43 (And.intro @fn_44 (And.intro @fn_45 (And.intro @fn_46 (And.intro @fn_47 (And.intro @fn_48 (And.intro @fn_49 (And.intro @fn_50 (And.intro @fn_51 (And.intro @fn_52 (And.intro @fn_53 (And.intro @fn_54 (And.intro @fn_55 (And.intro @fn_56 (And.intro @fn_57 (And.intro @fn_58 (And.intro @fn_59 (And.intro @fn_60 (And.intro @fn_61 (And.intro @fn_62 (And.intro @fn_63 (And.intro @fn_64 (And.intro @fn_65 (And.intro @fn_66 (And.intro @fn_67 (And.intro @fn_68 (And.intro @fn_70 (And.intro @fn_71 (And.intro @fn_72 (And.intro @fn_73 (And.intro @fn_75 (And.intro @fn_76 (And.intro @C_P (And.intro @C_norms (And.intro @C_heap (And.intro @C_quiet (And.intro @C_cuts (And.intro @C_draws (And.intro @C_prim (And.intro @C_shp (And.intro @C_drawf (And.intro @C_drawm (And.intro @C_opn (And.intro @C_cold (And.intro @C_ext (And.intro @C_ice (@C_shut))))))))))))))))))))))))))))))))))))))))))))))))))))))))))))))))))))))))))))))))))))))))))))))))))))))))))))))))))))))))))))))))))))))))))))))))))))))))))))))))))))))))))))))))))))))))))))))))))))))))))))))))))))))))))))))))))))))))))))))))))))))))))))))))))))))))))))))))))))))))))))))))))))))))))))))))))))))))))))))))))))))))))))))))))))))))))))))))))))))))))))))))))))))))))))))))))))))))))))))))))))))))))))))))))))))))))))))))))))))))))))))))))))))))))))))))))))))))))))))))))))))))))))))))))))))))))))))))))))))))))))))))))))))))))))))))))))))))))))))))))))))))))))))))))))))))))))))))))))))))))))))))))))))))))))))))))))))))))))))))))))))))))))))))))))))))))))))))))))))))))))))))))))))))))))))))))))))))))))))))))))))))))))))))))))))))))))))))))))))))))))))))))))))))))))))))))))))))))))))))))))))))))))))))))))))))))))))))))))))))))))))))))))))))))))))))))))))))))))))))))))))))))))))))))))))))))))))))))))))))))))))))))))))))))))))))))))))))))))))))))))))))))))))))))))))))))))))))))))))))))))))))))))))))))))))))))))))))))))))))))))))))))))))))))))))))))))))))))))))))))))))))))))))))))))))))))))))))))))))))))))))))))))))))))))))))))))))))))))))))))))))))))))))))))))))))))))))))))))))))))))))))))))))))))))))) := And.intro @sz_1 (And.intro @so_1 (And.intro @ag_1 (And.intro @sh_1 (And.intro @ze_1 (And.intro @ii_1 (And.intro @ap_1 (And.intro @by_1 (And.intro @sz_2 (And.intro @so_2 (And.intro @ag_2 (And.intro @sh_2 (And.intro @ze_2 (And.intro @ii_2 (And.intro @zv_2 (And.intro @un_2 (And.intro @ap_2 (And.intro @by_2 (And.intro @sz_3 (And.intro @so_3 (And.intro @ag_3 (And.intro @sh_3 (And.intro @ze_3 (And.intro @ii_3 (And.intro @zv_3 (And.intro @un_3 (And.intro @ap_3 (And.intro @by_3 (And.intro @sz_4 (And.intro @so_4 (And.intro @ag_4 (And.intro @sh_4 (And.intro @ze_4 (And.intro @ii_4 (And.intro @zv_4 (And.intro @un_4 (And.intro @ap_4 (And.intro @by_4 (And.intro @sz_5 (And.intro @so_5 (And.intro @ag_5 (And.intro @sh_5 (And.intro @ze_5 (And.intro @ii_5 (And.intro @zv_5 (And.intro @un_5 (And.intro @ap_5 (And.intro @by_5 (And.intro @sz_6 (And.intro @so_6 (And.intro @ag_6 (And.intro @sh_6 (And.intro @ze_6 (And.intro @ii_6 (And.intro @zv_6 (And.intro @un_6 (And.intro @ap_6 (And.intro @by_6 (And.intro @sz_7 (And.intro @so_7 (And.intro @ag_7 (And.intro @sh_7 (And.intro @ze_7 (And.intro @ii_7 (And.intro @zv_7 (And.intro @fo_7_0 (And.intro @pl_7_0 (And.intro @fo_7_1 (And.intro @pl_7_1 (And.intro @fo_7_2 (And.intro @pl_7_2 (And.intro @fo_7_3 (And.intro @pl_7_3 (And.intro @ap_7 (And.intro @pd_7 (And.intro @by_7 (And.intro @sz_8 (And.intro @so_8 (And.intro @ag_8 (And.intro @sh_8 (And.intro @ze_8 (And.intro @ii_8 (And.intro @zv_8 (And.intro @fo_8_0 (And.intro @pl_8_0 (And.intro @fo_8_1 (And.intro @pl_8_1 (And.intro @fo_8_2 (And.intro @pl_8_2 (And.intro @fo_8_3 (And.intro @pl_8_3 (And.intro @ap_8 (And.intro @pd_8 (And.intro @by_8 (And.intro @sz_9 (And.intro @so_9 (And.intro @ag_9 (And.intro @sh_9 (And.intro @ze_9 (And.intro @ii_9 (And.intro @zv_9 (And.intro @un_9 (And.intro @ap_9 (And.intro @by_9 (And.intro @sz_10 (And.intro @so_10 (And.intro @ag_10 (And.intro @sh_10 (And.intro @ze_10 (And.intro @ii_10 (And.intro @zv_10 (And.intro @un_10 (And.intro @ap_10 (And.intro @by_10 (And.intro @sz_11 (And.intro @so_11 (And.intro @ag_11 (And.intro @sh_11 (And.intro @ze_11 (And.intro @ii_11 (And.intro @zv_11 (And.intro @un_11 (And.intro @ap_11 (And.intro @by_11 (And.intro @sz_12 (And.intro @so_12 (And.intro @ag_12 (And.intro @sh_12 (And.intro @ze_12 (And.intro @ii_12 (And.intro @zv_12 (And.intro @un_12 (And.intro @ap_12 (And.intro @by_12 (And.intro @sz_13 (And.intro @so_13 (And.intro @ag_13 (And.intro @sh_13 (And.intro @ze_13 (And.intro @ii_13 (And.intro @zv_13 (And.intro @fo_13_0 (And.intro @pl_13_0 (And.intro @fo_13_1 (And.intro @pl_13_1 (And.intro @ap_13 (And.intro @pd_13 (And.intro @by_13 (And.intro @sz_14 (And.intro @so_14 (And.intro @ag_14 (And.intro @sh_14 (And.intro @ze_14 (And.intro @ii_14 (And.intro @zv_14 (And.intro @fo_14_0 (And.intro @pl_14_0 (And.intro @fo_14_1 (And.intro @pl_14_1 (And.intro @ap_14 (And.intro @pd_14 (And.intro @by_14 (And.intro @sz_15 (And.intro @so_15 (And.intro @ag_15 (And.intro @ze_15 (And.intro @ii_15 (And.intro @pt_15 (And.intro @ap_15 (And.intro @by_15 (And.intro @sz_16 (And.intro @so_16 (And.intro @ag_16 (And.intro @ze_16 (And.intro @ii_16 (And.intro @pt_16 (And.intro @ap_16 (And.intro @by_16 (And.intro @sz_17 (And.intro @so_17 (And.intro @ag_17 (And.intro @ze_17 (And.intro @ii_17 (And.intro @pt_17 (And.intro @ap_17 (And.intro @by_17 (And.intro @sz_18 (And.intro @so_18 (And.intro @ag_18 (And.intro @ze_18 (And.intro @ii_18 (And.intro @zv_18 (And.intro @fo_18_0 (And.intro @pl_18_0 (And.intro @ap_18 (And.intro @pd_18 (And.intro @by_18 (And.intro @sz_19 (And.intro @so_19 (And.intro @ag_19 (And.intro @ze_19 (And.intro @ii_19 (And.intro @zv_19 (And.intro @fo_19_0 (And.intro @pl_19_0 (And.intro @ap_19 (And.intro @pd_19 (And.intro @by_19 (And.intro @sz_21 (And.intro @so_21 (And.intro @ag_21 (And.intro @sh_21 (And.intro @ze_21 (And.intro @ii_21 (And.intro @zv_21 (And.intro @un_21 (And.intro @ap_21 (And.intro @by_21 (And.intro @sz_22 (And.intro @so_22 (And.intro @ag_22 (And.intro @sh_22 (And.intro @ze_22 (And.intro @ii_22 (And.intro @el_22 (And.intro @un_22 (And.intro @ap_22 (And.intro @by_22 (And.intro @sz_23 (And.intro @so_23 (And.intro @ag_23 (And.intro @sh_23 (And.intro @ze_23 (And.intro @ii_23 (And.intro @el_23 (And.intro @un_23 (And.intro @ap_23 (And.intro @by_23 (And.intro @sz_24 (And.intro @so_24 (And.intro @ag_24 (And.intro @sh_24 (And.intro @ze_24 (And.intro @ii_24 (And.intro @ar_24 (And.intro @pl_24 (And.intro @ap_24 (And.intro @pd_24 (And.intro @by_24 (And.intro @sz_25 (And.intro @so_25 (And.intro @ag_25 (And.intro @sh_25 (And.intro @ze_25 (And.intro @ii_25 (And.intro @zv_25 (And.intro @fs_25 (And.intro @fo_25_0 (And.intro @pl_25_0 (And.intro @fo_25_1 (And.intro @pl_25_1 (And.intro @fo_25_2 (And.intro @pl_25_2 (And.intro @fo_25_3 (And.intro @pl_25_3 (And.intro @fo_25_4 (And.intro @pl_25_4 (And.intro @fo_25_5 (And.intro @pl_25_5 (And.intro @fo_25_6 (And.intro @pl_25_6 (And.intro @ap_25 (And.intro @pd_25 (And.intro @by_25 (And.intro @sz_26 (And.intro @so_26 (And.intro @ag_26 (And.intro @sh_26 (And.intro @ze_26 (And.intro @ii_26 (And.intro @zv_26 (And.intro @fs_26 (And.intro @fo_26_0 (And.intro @pl_26_0 (And.intro @fo_26_1 (And.intro @pl_26_1 (And.intro @fo_26_2 (And.intro @pl_26_2 (And.intro @fo_26_3 (And.intro @pl_26_3 (And.intro @fo_26_4 (And.intro @pl_26_4 (And.intro @fo_26_5 (And.intro @pl_26_5 (And.intro @fo_26_6 (And.intro @pl_26_6 (And.intro @ap_26 (And.intro @pd_26 (And.intro @by_26 (And.intro @sz_27 (And.intro @so_27 (And.intro @ag_27 (And.intro @sh_27 (And.intro @ze_27 (And.intro @ii_27 (And.intro @ap_27 (And.intro @by_27 (And.intro @sz_28 (And.intro @so_28 (And.intro @ag_28 (And.intro @sh_28 (And.intro @ze_28 (And.intro @ii_28 (And.intro @ap_28 (And.intro @by_28 (And.intro @sz_29 (And.intro @so_29 (And.intro @ag_29 (And.intro @sh_29 (And.intro @ze_29 (And.intro @ii_29 (And.intro @el_29 (And.intro @un_29 (And.intro @ap_29 (And.intro @by_29 (And.intro @sz_30 (And.intro @so_30 (And.intro @ag_30 (And.intro @sh_30 (And.intro @ze_30 (And.intro @ii_30 (And.intro @el_30 (And.intro @un_30 (And.intro @ap_30 (And.intro @by_30 (And.intro @sz_31 (And.intro @so_31 (And.intro @ag_31 (And.intro @sh_31 (And.intro @ze_31 (And.intro @ii_31 (And.intro @zv_31 (And.intro @un_31 (And.intro @ap_31 (And.intro @by_31 (And.intro @sz_32 (And.intro @so_32 (And.intro @ag_32 (And.intro @sh_32 (And.intro @ze_32 (And.intro @ii_32 (And.intro @ap_32 (And.intro @by_32 (And.intro @sz_33 (And.intro @so_33 (And.intro @ag_33 (And.intro @sh_33 (And.intro @ze_33 (And.intro @ii_33 (And.intro @ap_33 (And.intro @by_33 (And.intro @sz_34 (And.intro @so_34 (And.intro @ag_34 (And.intro @sh_34 (And.intro @ze_34 (And.intro @ii_34 (And.intro @el_34 (And.intro @un_34 (And.intro @ap_34 (And.intro @by_34 (And.intro @sz_35 (And.intro @so_35 (And.intro @ag_35 (And.intro @sh_35 (And.intro @ze_35 (And.intro @ii_35 (And.intro @el_35 (And.intro @un_35 (And.intro @ap_35 (And.intro @by_35 (And.intro @sz_36 (And.intro @so_36 (And.intro @ag_36 (And.intro @sh_36 (And.intro @ze_36 (And.intro @ii_36 (And.intro @zv_36 (And.intro @fo_36_0 (And.intro @pl_36_0 (And.intro @fo_36_1 (And.intro @pl_36_1 (And.intro @fo_36_2 (And.intro @pl_36_2 (And.intro @fo_36_3 (And.intro @pl_36_3 (And.intro @ap_36 (And.intro @pd_36 (And.intro @by_36 (And.intro @sz_37 (And.intro @so_37 (And.intro @ag_37 (And.intro @sh_37 (And.intro @ze_37 (And.intro @ii_37 (And.intro @zv_37 (And.intro @fo_37_0 (And.intro @pl_37_0 (And.intro @fo_37_1 (And.intro @pl_37_1 (And.intro @fo_37_2 (And.intro @pl_37_2 (And.intro @fo_37_3 (And.intro @pl_37_3 (And.intro @ap_37 (And.intro @pd_37 (And.intro @by_37 (And.intro @sz_39 (And.intro @so_39 (And.intro @ag_39 (And.intro @sh_39 (And.intro @ze_39 (And.intro @ii_39 (And.intro @ap_39 (And.intro @by_39 (And.intro @sz_40 (And.intro @so_40 (And.intro @ag_40 (And.intro @sh_40 (And.intro @ze_40 (And.intro @ii_40 (And.intro @ap_40 (And.intro @by_40 (And.intro @sz_41 (And.intro @so_41 (And.intro @ag_41 (And.intro @sh_41 (And.intro @ze_41 (And.intro @ii_41 (And.intro @ap_41 (And.intro @by_41 (And.intro @sz_42 (And.intro @so_42 (And.intro @ag_42 (And.intro @sh_42 (And.intro @ze_42 (And.intro @ii_42 (And.intro @ap_42 (And.intro @by_42 (And.intro @sz_43 (And.intro @so_43 (And.intro @ag_43 (And.intro @sh_43 (And.intro @ze_43 (And.intro @ii_43 (And.intro @ap_43 (And.intro @by_43 (And.intro @sz_44 (And.intro @so_44 (And.intro @ag_44 (And.intro @sh_44 (And.intro @ze_44 (And.intro @ii_44 (And.intro @ap_44 (And.intro @by_44 (And.intro @sz_45 (And.intro @so_45 (And.intro @ag_45 (And.intro @sh_45 (And.intro @ze_45 (And.intro @ii_45 (And.intro @el_45 (And.intro @un_45 (And.intro @ap_45 (And.intro @by_45 (And.intro @sz_46 (And.intro @so_46 (And.intro @ag_46 (And.intro @sh_46 (And.intro @ze_46 (And.intro @ii_46 (And.intro @zv_46 (And.intro @fo_46_0 (And.intro @pl_46_0 (And.intro @fo_46_1 (And.intro @pl_46_1 (And.intro @fo_46_2 (And.intro @pl_46_2 (And.intro @fo_46_3 (And.intro @pl_46_3 (And.intro @fo_46_4 (And.intro @pl_46_4 (And.intro @fo_46_5 (And.intro @pl_46_5 (And.intro @ap_46 (And.intro @pd_46 (And.intro @by_46 (And.intro @sz_47 (And.intro @so_47 (And.intro @ag_47 (And.intro @sh_47 (And.intro @ze_47 (And.intro @ii_47 (And.intro @zv_47 (And.intro @fo_47_0 (And.intro @pl_47_0 (And.intro @fo_47_1 (And.intro @pl_47_1 (And.intro @fo_47_2 (And.intro @pl_47_2 (And.intro @fo_47_3 (And.intro @pl_47_3 (And.intro @fo_47_4 (And.intro @pl_47_4 (And.intro @fo_47_5 (And.intro @pl_47_5 (And.intro @ap_47 (And.intro @pd_47 (And.intro @by_47 (And.intro @sz_48 (And.intro @so_48 (And.intro @ag_48 (And.intro @sh_48 (And.intro @ze_48 (And.intro @ii_48 (And.intro @ap_48 (And.intro @by_48 (And.intro @sz_49 (And.intro @so_49 (And.intro @ag_49 (And.intro @sh_49 (And.intro @ze_49 (And.intro @ii_49 (And.intro @ap_49 (And.intro @by_49 (And.intro @sz_50 (And.intro @so_50 (And.intro @ag_50 (And.intro @sh_50 (And.intro @ze_50 (And.intro @ii_50 (And.intro @ap_50 (And.intro @by_50 (And.intro @sz_51 (And.intro @so_51 (And.intro @ag_51 (And.intro @sh_51 (And.intro @ze_51 (And.intro @ii_51 (And.intro @ap_51 (And.intro @by_51 (And.intro @sz_52 (And.intro @so_52 (And.intro @ag_52 (And.intro @sh_52 (And.intro @ze_52 (And.intro @ii_52 (And.intro @ap_52 (And.intro @by_52 (And.intro @sz_53 (And.intro @so_53 (And.intro @ag_53 (And.intro @sh_53 (And.intro @ze_53 (And.intro @ii_53 (And.intro @ap_53 (And.intro @by_53 (And.intro @sz_54 (And.intro @so_54 (And.intro @ag_54 (And.intro @sh_54 (And.intro @ze_54 (And.intro @ii_54 (And.intro @ap_54 (And.intro @by_54 (And.intro @sz_55 (And.intro @so_55 (And.intro @ag_55 (And.intro @sh_55 (And.intro @ze_55 (And.intro @ii_55 (And.intro @ap_55 (And.intro @by_55 (And.intro @sz_56 (And.intro @so_56 (And.intro @ag_56 (And.intro @sh_56 (And.intro @ze_56 (And.intro @ii_56 (And.intro @ap_56 (And.intro @by_56 (And.intro @sz_57 (And.intro @so_57 (And.intro @ag_57 (And.intro @sh_57 (And.intro @ze_57 (And.intro @ii_57 (And.intro @zv_57 (And.intro @fs_57 (And.intro @fo_57_0 (And.intro @pl_57_0 (And.intro @fo_57_1 (And.intro @pl_57_1 (And.intro @ap_57 (And.intro @pd_57 (And.intro @by_57 (And.intro @sz_58 (And.intro @so_58 (And.intro @ag_58 (And.intro @sh_58 (And.intro @ze_58 (And.intro @ii_58 (And.intro @zv_58 (And.intro @fs_58 (And.intro @fo_58_0 (And.intro @pl_58_0 (And.intro @fo_58_1 (And.intro @pl_58_1 (And.intro @ap_58 (And.intro @pd_58 (And.intro @by_58 (And.intro @sz_59 (And.intro @so_59 (And.intro @ag_59 (And.intro @ze_59 (And.intro @ii_59 (And.intro @pt_59 (And.intro @ap_59 (And.intro @by_59 (And.intro @sz_60 (And.intro @so_60 (And.intro @ag_60 (And.intro @sh_60 (And.intro @ze_60 (And.intro @ii_60 (And.intro @ap_60 (And.intro @by_60 (And.intro @sz_61 (And.intro @so_61 (And.intro @ag_61 (And.intro @sh_61 (And.intro @ze_61 (And.intro @ii_61 (And.intro @zv_61 (And.intro @fo_61_0 (And.intro @pl_61_0 (And.intro @fo_61_1 (And.intro @pl_61_1 (And.intro @fo_61_2 (And.intro @pl_61_2 (And.intro @fo_61_3 (And.intro @pl_61_3 (And.intro @ap_61 (And.intro @pd_61 (And.intro @by_61 (And.intro @sz_62 (And.intro @so_62 (And.intro @ag_62 (And.intro @sh_62 (And.intro @ze_62 (And.intro @ii_62 (And.intro @zv_62 (And.intro @fo_62_0 (And.intro @pl_62_0 (And.intro @fo_62_1 (And.intro @pl_62_1 (And.intro @fo_62_2 (And.intro @pl_62_2 (And.intro @fo_62_3 (And.intro @pl_62_3 (And.intro @ap_62 (And.intro @pd_62 (And.intro @by_62 (And.intro @sz_63 (And.intro @so_63 (And.intro @ag_63 (And.intro @sh_63 (And.intro @ze_63 (And.intro @ii_63 (And.intro @ap_63 (And.intro @by_63 (And.intro @sz_64 (And.intro @so_64 (And.intro @ag_64 (And.intro @sh_64 (And.intro @ze_64 (And.intro @ii_64 (And.intro @ap_64 (And.intro @by_64 (And.intro @sz_66 (And.intro @so_66 (And.intro @ag_66 (And.intro @sh_66 (And.intro @ze_66 (And.intro @ii_66 (And.intro @ap_66 (And.intro @by_66 (And.intro @sz_67 (And.intro @so_67 (And.intro @ag_67 (And.intro @sh_67 (And.intro @ze_67 (And.intro @ii_67 (And.intro @ap_67 (And.intro @by_67 (And.intro @sz_68 (And.intro @so_68 (And.intro @ag_68 (And.intro @sh_68 (And.intro @ze_68 (And.intro @ii_68 (And.intro @ap_68 (And.intro @by_68 (And.intro @sz_69 (And.intro @so_69 (And.intro @ag_69 (And.intro @ze_69 (And.intro @ii_69 (And.intro @mo_69 (And.intro @ap_69 (And.intro @by_69 (And.intro @sz_70 (And.intro @so_70 (And.intro @ag_70 (And.intro @sh_70 (And.intro @ze_70 (And.intro @ii_70 (And.intro @ap_70 (And.intro @by_70 (And.intro @sz_71 (And.intro @so_71 (And.intro @ag_71 (And.intro @sh_71 (And.intro @ze_71 (And.intro @ii_71 (And.intro @ap_71 (And.intro @by_71 (And.intro @sz_72 (And.intro @so_72 (And.intro @ag_72 (And.intro @sh_72 (And.intro @ze_72 (And.intro @ii_72 (And.intro @ap_72 (And.intro @by_72 (And.intro @sz_73 (And.intro @so_73 (And.intro @ag_73 (And.intro @sh_73 (And.intro @ze_73 (And.intro @ii_73 (And.intro @ap_73 (And.intro @by_73 (And.intro @sz_74 (And.intro @so_74 (And.intro @ag_74 (And.intro @sh_74 (And.intro @ze_74 (And.intro @ii_74 (And.intro @ap_74 (And.intro @by_74 (And.intro @sz_75 (And.intro @so_75 (And.intro @ag_75 (And.intro @sh_75 (And.intro @ze_75 (And.intro @ii_75 (And.intro @ap_75 (And.intro @by_75 (And.intro @sz_76 (And.intro @so_76 (And.intro @ag_76 (And.intro @sh_76 (And.intro @ze_76 (And.intro @ii_76 (And.intro @ap_76 (And.intro @by_76 (And.intro @sz_77 (And.intro @so_77 (And.intro @ag_77 (And.intro @sh_77 (And.intro @ze_77 (And.intro @ii_77 (And.intro @el_77 (And.intro @un_77 (And.intro @ap_77 (And.intro @by_77 (And.intro @sz_78 (And.intro @so_78 (And.intro @ag_78 (And.intro @sh_78 (And.intro @ze_78 (And.intro @ii_78 (And.intro @zv_78 (And.intro @un_78 (And.intro @ap_78 (And.intro @by_78 (And.intro @sz_79 (And.intro @so_79 (And.intro @ag_79 (And.intro @sh_79 (And.intro @ze_79 (And.intro @ii_79 (And.intro @ap_79 (And.intro @by_79 (And.intro @sz_80 (And.intro @so_80 (And.intro @ag_80 (And.intro @sh_80 (And.intro @ze_80 (And.intro @ii_80 (And.intro @ap_80 (And.intro @by_80 (And.intro @sz_81 (And.intro @so_81 (And.intro @ag_81 (And.intro @sh_81 (And.intro @ze_81 (And.intro @ii_81 (And.intro @ap_81 (And.intro @by_81 (And.intro @sz_82 (And.intro @so_82 (And.intro @ag_82 (And.intro @ze_82 (And.intro @ii_82 (And.intro @pt_82 (And.intro @ap_82 (And.intro @by_82 (And.intro @sz_83 (And.intro @so_83 (And.intro @ag_83 (And.intro @sh_83 (And.intro @ze_83 (And.intro @ii_83 (And.intro @ap_83 (And.intro @by_83 (And.intro @sz_84 (And.intro @so_84 (And.intro @ag_84 (And.intro @sh_84 (And.intro @ze_84 (And.intro @ii_84 (And.intro @ap_84 (And.intro @by_84 (And.intro @sz_85 (And.intro @so_85 (And.intro @ag_85 (And.intro @sh_85 (And.intro @ze_85 (And.intro @ii_85 (And.intro @ap_85 (And.intro @by_85 (And.intro @sz_86 (And.intro @so_86 (And.intro @ag_86 (And.intro @sh_86 (And.intro @ze_86 (And.intro @ii_86 (And.intro @ap_86 (And.intro @by_86 (And.intro @sz_87 (And.intro @so_87 (And.intro @ag_87 (And.intro @sh_87 (And.intro @ze_87 (And.intro @ii_87 (And.intro @ap_87 (And.intro @by_87 (And.intro @sz_88 (And.intro @so_88 (And.intro @ag_88 (And.intro @sh_88 (And.intro @ze_88 (And.intro @ii_88 (And.intro @ap_88 (And.intro @by_88 (And.intro @sz_89 (And.intro @so_89 (And.intro @ag_89 (And.intro @sh_89 (And.intro @ze_89 (And.intro @ii_89 (And.intro @ap_89 (And.intro @by_89 (And.intro @sz_90 (And.intro @so_90 (And.intro @ag_90 (And.intro @sh_90 (And.intro @ze_90 (And.intro @ii_90 (And.intro @ap_90 (And.intro @by_90 (And.intro @sz_91 (And.intro @so_91 (And.intro @ag_91 (And.intro @sh_91 (And.intro @ze_91 (And.intro @ii_91 (And.intro @ap_91 (And.intro @by_91 (And.intro @sz_92 (And.intro @so_92 (And.intro @ag_92 (And.intro @sh_92 (And.intro @ze_92 (And.intro @ii_92 (And.intro @ap_92 (And.intro @by_92 (And.intro @sz_93 (And.intro @so_93 (And.intro @ag_93 (And.intro @sh_93 (And.intro @ze_93 (And.intro @ii_93 (And.intro @ap_93 (And.intro @by_93 (And.intro @sz_94 (And.intro @so_94 (And.intro @ag_94 (And.intro @sh_94 (And.intro @ze_94 (And.intro @ii_94 (And.intro @ap_94 (And.intro @by_94 (And.intro @sz_95 (And.intro @so_95 (And.intro @ag_95 (And.intro @sh_95 (And.intro @ze_95 (And.intro @ii_95 (And.intro @ap_95 (And.intro @by_95 (And.intro @sz_96 (And.intro @so_96 (And.intro @ag_96 (And.intro @sh_96 (And.intro @ze_96 (And.intro @ii_96 (And.intro @ap_96 (And.intro @by_96 (And.intro @sz_97 (And.intro @so_97 (And.intro @ag_97 (And.intro @ze_97 (And.intro @ii_97 (And.intro @zv_97 (And.intro @fo_97_0 (And.intro @pl_97_0 (And.intro @fo_97_1 (And.intro @pl_97_1 (And.intro @fo_97_2 (And.intro @pl_97_2 (And.intro @fo_97_3 (And.intro @pl_97_3 (And.intro @ap_97 (And.intro @pd_97 (And.intro @by_97 (And.intro @sz_98 (And.intro @so_98 (And.intro @ag_98 (And.intro @ze_98 (And.intro @ii_98 (And.intro @zv_98 (And.intro @fo_98_0 (And.intro @pl_98_0 (And.intro @fo_98_1 (And.intro @pl_98_1 (And.intro @fo_98_2 (And.intro @pl_98_2 (And.intro @fo_98_3 (And.intro @pl_98_3 (And.intro @ap_98 (And.intro @pd_98 (And.intro @by_98 (And.intro @sz_99 (And.intro @so_99 (And.intro @ag_99 (And.intro @sh_99 (And.intro @ze_99 (And.intro @ii_99 (And.intro @ar_99 (And.intro @pl_99 (And.intro @pd_99 (And.intro @by_99 (And.intro @sz_100 (And.intro @so_100 (And.intro @ag_100 (And.intro @sh_100 (And.intro @ze_100 (And.intro @ii_100 (And.intro @zv_100 (And.intro @fo_100_0 (And.intro @pl_100_0 (And.intro @pd_100 (And.intro @by_100 (And.intro @sz_101 (And.intro @so_101 (And.intro @ag_101 (And.intro @sh_101 (And.intro @ze_101 (And.intro @ii_101 (And.intro @zv_101 (And.intro @fo_101_0 (And.intro @pl_101_0 (And.intro @pd_101 (And.intro @by_101 (And.intro @sz_102 (And.intro @so_102 (And.intro @ag_102 (And.intro @sh_102 (And.intro @ze_102 (And.intro @ii_102 (And.intro @zv_102 (And.intro @un_102 (And.intro @ap_102 (And.intro @by_102 (And.intro @sz_103 (And.intro @so_103 (And.intro @ag_103 (And.intro @sh_103 (And.intro @ze_103 (And.intro @ii_103 (And.intro @zv_103 (And.intro @un_103 (And.intro @ap_103 (And.intro @by_103 (And.intro @sz_104 (And.intro @so_104 (And.intro @ag_104 (And.intro @sh_104 (And.intro @ze_104 (And.intro @ii_104 (And.intro @zv_104 (And.intro @un_104 (And.intro @ap_104 (And.intro @by_104 (And.intro @sz_105 (And.intro @so_105 (And.intro @ag_105 (And.intro @sh_105 (And.intro @ze_105 (And.intro @ii_105 (And.intro @ap_105 (And.intro @by_105 (And.intro @sz_106 (And.intro @so_106 (And.intro @ag_106 (And.intro @ze_106 (And.intro @ii_106 (And.intro @pt_106 (And.intro @ap_106 (And.intro @by_106 (And.intro @sz_107 (And.intro @so_107 (And.intro @ag_107 (And.intro @sh_107 (And.intro @ze_107 (And.intro @ii_107 (And.intro @zv_107 (And.intro @un_107 (And.intro @ap_107 (And.intro @by_107 (And.intro @sz_108 (And.intro @so_108 (And.intro @ag_108 (And.intro @sh_108 (And.intro @ze_108 (And.intro @ii_108 (And.intro @zv_108 (And.intro @un_108 (And.intro @ap_108 (And.intro @by_108 (And.intro @sz_109 (And.intro @so_109 (And.intro @ag_109 (And.intro @ze_109 (And.intro @ii_109 (And.intro @zv_109 (And.intro @fo_109_0 (And.intro @pl_109_0 (And.intro @fo_109_1 (And.intro @pl_109_1 (And.intro @fo_109_2 (And.intro @pl_109_2 (And.intro @fo_109_3 (And.intro @pl_109_3 (And.intro @fo_109_4 (And.intro @pl_109_4 (And.intro @fo_109_5 (And.intro @pl_109_5 (And.intro @fo_109_6 (And.intro @pl_109_6 (And.intro @fo_109_7 (And.intro @pl_109_7 (And.intro @fo_109_8 (And.intro @pl_109_8 (And.intro @fo_109_9 (And.intro @pl_109_9 (And.intro @fo_109_10 (And.intro @pl_109_10 (And.intro @ap_109 (And.intro @pd_109 (And.intro @by_109 (And.intro @sz_110 (And.intro @so_110 (And.intro @ag_110 (And.intro @ze_110 (And.intro @ii_110 (And.intro @zv_110 (And.intro @fo_110_0 (And.intro @pl_110_0 (And.intro @fo_110_1 (And.intro @pl_110_1 (And.intro @fo_110_2 (And.intro @pl_110_2 (And.intro @fo_110_3 (And.intro @pl_110_3 (And.intro @fo_110_4 (And.intro @pl_110_4 (And.intro @fo_110_5 (And.intro @pl_110_5 (And.intro @fo_110_6 (And.intro @pl_110_6 (And.intro @fo_110_7 (And.intro @pl_110_7 (And.intro @fo_110_8 (And.intro @pl_110_8 (And.intro @fo_110_9 (And.intro @pl_110_9 (And.intro @fo_110_10 (And.intro @pl_110_10 (And.intro @ap_110 (And.intro @pd_110 (And.intro @by_110 (And.intro @fn_2 (And.intro @fn_3 (And.intro @fn_4 (And.intro @fn_5 (And.intro @fn_6 (And.intro @fn_7 (And.intro @fn_8 (And.intro @fn_9 (And.intro @fn_10 (And.intro @fn_11 (And.intro @fn_12 (And.intro @fn_13 (And.intro @fn_14 (And.intro @fn_15 (And.intro @fn_16 (And.intro @fn_17 (And.intro @fn_18 (And.intro @fn_19 (And.intro @fn_20 (And.intro @fn_21 (And.intro @fn_22 (And.intro @fn_23 (And.intro @fn_24 (And.intro @fn_25 (And.intro @fn_26 (And.intro @fn_27 (And.intro @fn_28 (And.intro @fn_29 (And.intro @fn_30 (And.intro @fn_31 (And.intro @fn_32 (And.intro @fn_33 (And.intro @fn_34 (And.intro @fn_35 (And.intro @fn_36 (And.intro @fn_37 (And.intro @fn_38 (And.intro @fn_39 (And.intro @fn_40 (And.intro @fn_41 (And.intro @fn_42 (And.intro @fn_43 (And.intro @fn_44 (And.intro @fn_45 (And.intro @fn_46 (And.intro @fn_47 (And.intro @fn_48 (And.intro @fn_49 (And.intro @fn_50 (And.intro @fn_51 (And.intro @fn_52 (And.intro @fn_53 (And.intro @fn_54 (And.intro @fn_55 (And.intro @fn_56 (And.intro @fn_57 (And.intro @fn_58 (And.intro @fn_59 (And.intro @fn_60 (And.intro @fn_61 (And.intro @fn_62 (And.intro @fn_63 (And.intro @fn_64 (And.intro @fn_65 (And.intro @fn_66 (And.intro @fn_67 (And.intro @fn_68 (And.intro @fn_70 (And.intro @fn_71 (And.intro @fn_72 (And.intro @fn_73 (And.intro @fn_75 (And.intro @fn_76 (And.intro @C_P (And.intro @C_norms (And.intro @C_heap (And.intro @C_quiet (And.intro @C_cuts (And.intro @C_draws (And.intro @C_prim (And.intro @C_shp (And.intro @C_drawf (And.intro @C_drawm (And.intro @C_opn (And.intro @C_cold (And.intro @C_ext (And.intro @C_ice (@C_shut))))))))))))))))))))))))))))))))))))))))))))))))))))))))))))))))))))))))))))))))))))))))))))))))))))))))))))))))))))))))))))))))))))))))))))))))))))))))))))))))))))))))))))))))))))))))))))))))))))))))))))))))))))))))))))))))))))))))))))))))))))))))))))))))))))))))))))))))))))))))))))))))))))))))))))))))))))))))))))))))))))))))))))))))))))))))))))))))))))))))))))))))))))))))))))))))))))))))))))))))))))))))))))))))))))))))))))))))))))))))))))))))))))))))))))))))))))))))))))))))))))))))))))))))))))))))))))))))))))))))))))))))))))))))))))))))))))))))))))))))))))))))))))))))))))))))))))))))))))))))))))))))))))))))))))))))))))))))))))))))))))))))))))))))))))))))))))))))))))))))))))))))))))))))))))))))))))))))))))))))))))))))))))))))))))))))))))))))))))))))))))))))))))))))))))))))))))))))))))))))))))))))))))))))))))))))))))))))))))))))))))))))))))))))))))))))))))))))))))))))))))))))))))))))))))))))))))))))))))))))))))))))))))))))))))))))))))))))))))))))))))))))))))))))))))))))))))))))))))))))))))))))))))))))))))))))))))))))))))))))))))))))))))))))))))))))))))))))))))))))))))))))))))))))))))))))))))))))))))))))))))))))))))))))))))))))))))))))))))))))))))))))))))))))))))))))))))))))))))))))))))))))))))))))))))))
end Go.Ai
