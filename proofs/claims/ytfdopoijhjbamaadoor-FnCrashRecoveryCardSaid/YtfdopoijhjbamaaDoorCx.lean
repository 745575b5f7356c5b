/- The types and functions of this seat, as the logic's context. Written by a program of this session. -/
import Derived.Test.YtfdopoijhjbamaaDoorAwJ
import Derived.Lib.ItoaNum
import Derived.Test.YtfdopoijhjbamaaDoorProg
import Derived.KernelRfl
namespace Go.Proofs.YtfdopoijhjbamaaDoor
open Go.Aw

def tys : List (Nat × TD) := [(2, ⟨.int .i64, 1, 8, [.i .i64]⟩),
  (3, ⟨.int .i64, 1, 8, [.i .i64]⟩),
  (4, ⟨.bool, 1, 1, [.b]⟩),
  (5, ⟨.int .u8, 1, 1, [.i .u8]⟩),
  (7, ⟨.struct [(0, 1), (1, 1), (2, 1), (3, 1)], 4, 24, [.i .i64, .i .i64, .b, .i .u8]⟩),
  (9, ⟨.str, 1, 16, [.s]⟩),
  (12, ⟨.int .u64, 1, 8, [.i .u64]⟩),
  (13, ⟨.struct [(0, 1), (1, 1)], 2, 24, [.s, .i .u64]⟩),
  (15, ⟨.other, 1, 8, [.np]⟩),
  (16, ⟨.other, 1, 8, [.np]⟩),
  (17, ⟨.other, 1, 8, [.np]⟩),
  (18, ⟨.struct [(0, 1)], 1, 8, [.np]⟩),
  (21, ⟨.int .i32, 1, 4, [.i .i32]⟩),
  (22, ⟨.struct [(0, 1), (1, 1), (2, 1)], 3, 40, [.s, .s, .i .i64]⟩),
  (23, ⟨.struct [(0, 1), (1, 1), (2, 1)], 3, 40, [.s, .s, .i .i64]⟩),
  (27, ⟨.struct [(0, 1), (1, 1), (2, 1)], 3, 40, [.s, .s, .i .i64]⟩),
  (30, ⟨.slice 5, 1, 24, [.ns]⟩),
  (35, ⟨.slice 39, 1, 24, [.ns]⟩),
  (38, ⟨.struct [(0, 1), (1, 1)], 2, 32, [.s, .s]⟩),
  (39, ⟨.struct [(0, 1), (1, 1)], 2, 32, [.s, .s]⟩),
  (41, ⟨.slice 81, 1, 24, [.ns]⟩),
  (42, ⟨.struct [(0, 1), (1, 3)], 4, 64, [.ns, .s, .s, .i .i64]⟩),
  (43, ⟨.struct [(0, 1), (1, 3)], 4, 64, [.ns, .s, .s, .i .i64]⟩),
  (46, ⟨.slice 79, 1, 24, [.ns]⟩),
  (47, ⟨.struct [(0, 1), (1, 3)], 4, 64, [.ns, .s, .s, .i .i64]⟩),
  (48, ⟨.struct [(0, 1), (1, 3)], 4, 64, [.ns, .s, .s, .i .i64]⟩),
  (53, ⟨.other, 1, 8, [.np]⟩),
  (54, ⟨.int .u64, 1, 8, [.i .u64]⟩),
  (55, ⟨.struct [(0, 1), (1, 1), (2, 1)], 3, 40, [.ns, .i .i64, .i .u64]⟩),
  (56, ⟨.struct [(0, 1), (1, 1), (2, 1)], 3, 40, [.ns, .i .i64, .i .u64]⟩),
  (74, ⟨.slice 9, 1, 24, [.ns]⟩),
  (78, ⟨.struct [(0, 1), (1, 1), (2, 1), (3, 1), (4, 1), (5, 1)], 6, 48, [.i .i64, .i .i64, .i .i64, .i .i64, .i .i64, .i .i64]⟩),
  (79, ⟨.struct [(0, 1), (1, 1), (2, 1), (3, 1), (4, 1), (5, 1)], 6, 48, [.i .i64, .i .i64, .i .i64, .i .i64, .i .i64, .i .i64]⟩),
  (81, ⟨.struct [(0, 1), (1, 1), (2, 1), (3, 1), (4, 1), (5, 1)], 6, 48, [.i .i64, .i .i64, .i .i64, .i .i64, .i .i64, .i .i64]⟩),
  (90, ⟨.int .u64, 1, 8, [.i .u64]⟩),
  (103, ⟨.int .u32, 1, 4, [.i .u32]⟩),
  (107, ⟨.arr 256 4, 256, 256, [.b, .b, .b, .b, .b, .b, .b, .b, .b, .b, .b, .b, .b, .b, .b, .b, .b, .b, .b, .b, .b, .b, .b, .b, .b, .b, .b, .b, .b, .b, .b, .b, .b, .b, .b, .b, .b, .b, .b, .b, .b, .b, .b, .b, .b, .b, .b, .b, .b, .b, .b, .b, .b, .b, .b, .b, .b, .b, .b, .b, .b, .b, .b, .b, .b, .b, .b, .b, .b, .b, .b, .b, .b, .b, .b, .b, .b, .b, .b, .b, .b, .b, .b, .b, .b, .b, .b, .b, .b, .b, .b, .b, .b, .b, .b, .b, .b, .b, .b, .b, .b, .b, .b, .b, .b, .b, .b, .b, .b, .b, .b, .b, .b, .b, .b, .b, .b, .b, .b, .b, .b, .b, .b, .b, .b, .b, .b, .b, .b, .b, .b, .b, .b, .b, .b, .b, .b, .b, .b, .b, .b, .b, .b, .b, .b, .b, .b, .b, .b, .b, .b, .b, .b, .b, .b, .b, .b, .b, .b, .b, .b, .b, .b, .b, .b, .b, .b, .b, .b, .b, .b, .b, .b, .b, .b, .b, .b, .b, .b, .b, .b, .b, .b, .b, .b, .b, .b, .b, .b, .b, .b, .b, .b, .b, .b, .b, .b, .b, .b, .b, .b, .b, .b, .b, .b, .b, .b, .b, .b, .b, .b, .b, .b, .b, .b, .b, .b, .b, .b, .b, .b, .b, .b, .b, .b, .b, .b, .b, .b, .b, .b, .b, .b, .b, .b, .b, .b, .b, .b, .b, .b, .b, .b, .b, .b, .b, .b, .b, .b, .b, .b, .b, .b, .b, .b, .b]⟩),
  (108, ⟨.arr 256 4, 256, 256, [.b, .b, .b, .b, .b, .b, .b, .b, .b, .b, .b, .b, .b, .b, .b, .b, .b, .b, .b, .b, .b, .b, .b, .b, .b, .b, .b, .b, .b, .b, .b, .b, .b, .b, .b, .b, .b, .b, .b, .b, .b, .b, .b, .b, .b, .b, .b, .b, .b, .b, .b, .b, .b, .b, .b, .b, .b, .b, .b, .b, .b, .b, .b, .b, .b, .b, .b, .b, .b, .b, .b, .b, .b, .b, .b, .b, .b, .b, .b, .b, .b, .b, .b, .b, .b, .b, .b, .b, .b, .b, .b, .b, .b, .b, .b, .b, .b, .b, .b, .b, .b, .b, .b, .b, .b, .b, .b, .b, .b, .b, .b, .b, .b, .b, .b, .b, .b, .b, .b, .b, .b, .b, .b, .b, .b, .b, .b, .b, .b, .b, .b, .b, .b, .b, .b, .b, .b, .b, .b, .b, .b, .b, .b, .b, .b, .b, .b, .b, .b, .b, .b, .b, .b, .b, .b, .b, .b, .b, .b, .b, .b, .b, .b, .b, .b, .b, .b, .b, .b, .b, .b, .b, .b, .b, .b, .b, .b, .b, .b, .b, .b, .b, .b, .b, .b, .b, .b, .b, .b, .b, .b, .b, .b, .b, .b, .b, .b, .b, .b, .b, .b, .b, .b, .b, .b, .b, .b, .b, .b, .b, .b, .b, .b, .b, .b, .b, .b, .b, .b, .b, .b, .b, .b, .b, .b, .b, .b, .b, .b, .b, .b, .b, .b, .b, .b, .b, .b, .b, .b, .b, .b, .b, .b, .b, .b, .b, .b, .b, .b, .b, .b, .b, .b, .b, .b, .b]⟩),
  (112, ⟨.arr 24 5, 24, 24, [.i .u8, .i .u8, .i .u8, .i .u8, .i .u8, .i .u8, .i .u8, .i .u8, .i .u8, .i .u8, .i .u8, .i .u8, .i .u8, .i .u8, .i .u8, .i .u8, .i .u8, .i .u8, .i .u8, .i .u8, .i .u8, .i .u8, .i .u8, .i .u8]⟩),
  (118, ⟨.other, 1, 8, [.np]⟩),
  (120, ⟨.arr 20 54, 20, 160, [.i .u64, .i .u64, .i .u64, .i .u64, .i .u64, .i .u64, .i .u64, .i .u64, .i .u64, .i .u64, .i .u64, .i .u64, .i .u64, .i .u64, .i .u64, .i .u64, .i .u64, .i .u64, .i .u64, .i .u64]⟩),
  (121, ⟨.arr 65 5, 65, 65, [.i .u8, .i .u8, .i .u8, .i .u8, .i .u8, .i .u8, .i .u8, .i .u8, .i .u8, .i .u8, .i .u8, .i .u8, .i .u8, .i .u8, .i .u8, .i .u8, .i .u8, .i .u8, .i .u8, .i .u8, .i .u8, .i .u8, .i .u8, .i .u8, .i .u8, .i .u8, .i .u8, .i .u8, .i .u8, .i .u8, .i .u8, .i .u8, .i .u8, .i .u8, .i .u8, .i .u8, .i .u8, .i .u8, .i .u8, .i .u8, .i .u8, .i .u8, .i .u8, .i .u8, .i .u8, .i .u8, .i .u8, .i .u8, .i .u8, .i .u8, .i .u8, .i .u8, .i .u8, .i .u8, .i .u8, .i .u8, .i .u8, .i .u8, .i .u8, .i .u8, .i .u8, .i .u8, .i .u8, .i .u8, .i .u8]⟩),
  (124, ⟨.arr 32 5, 32, 32, [.i .u8, .i .u8, .i .u8, .i .u8, .i .u8, .i .u8, .i .u8, .i .u8, .i .u8, .i .u8, .i .u8, .i .u8, .i .u8, .i .u8, .i .u8, .i .u8, .i .u8, .i .u8, .i .u8, .i .u8, .i .u8, .i .u8, .i .u8, .i .u8, .i .u8, .i .u8, .i .u8, .i .u8, .i .u8, .i .u8, .i .u8, .i .u8]⟩),
  (125, ⟨.arr 64 5, 64, 64, [.i .u8, .i .u8, .i .u8, .i .u8, .i .u8, .i .u8, .i .u8, .i .u8, .i .u8, .i .u8, .i .u8, .i .u8, .i .u8, .i .u8, .i .u8, .i .u8, .i .u8, .i .u8, .i .u8, .i .u8, .i .u8, .i .u8, .i .u8, .i .u8, .i .u8, .i .u8, .i .u8, .i .u8, .i .u8, .i .u8, .i .u8, .i .u8, .i .u8, .i .u8, .i .u8, .i .u8, .i .u8, .i .u8, .i .u8, .i .u8, .i .u8, .i .u8, .i .u8, .i .u8, .i .u8, .i .u8, .i .u8, .i .u8, .i .u8, .i .u8, .i .u8, .i .u8, .i .u8, .i .u8, .i .u8, .i .u8, .i .u8, .i .u8, .i .u8, .i .u8, .i .u8, .i .u8, .i .u8, .i .u8]⟩),
  (127, ⟨.struct [(0, 1), (1, 1), (2, 1), (3, 1)], 4, 40, [.np, .np, .np, .s]⟩),
  (129, ⟨.arr 0 16, 0, 0, []⟩),
  (135, ⟨.other, 1, 8, [.np]⟩),
  (138, ⟨.struct [(0, 1), (1, 1), (2, 1), (3, 1), (4, 1), (5, 1), (6, 1), (7, 1), (8, 1), (9, 1), (10, 1)], 11, 48, [.i .u64, .i .u64, .i .u32, .i .u8, .i .u8, .i .u8, .i .u8, .nf, .np, .i .i32, .i .i32]⟩)]
theorem tys_ok : (tys.all fun p => tdOk Tryd.prog p.1 p.2) = true := by kernel_rfl
def fns : List Nat := [3, 4, 5, 6, 7, 8, 9, 10, 11, 12, 13, 14, 15, 16, 17, 18, 19, 20, 21, 22, 23, 24, 25, 26, 27, 28, 29, 30, 31, 32, 33, 34, 35, 36, 37, 38, 39, 40, 41, 42, 43, 44, 45, 46, 47, 48, 49, 50, 51, 52, 53, 54, 55, 56, 57, 58, 59, 60, 61, 62, 63, 64, 65, 66, 67, 68, 69, 70, 71, 72, 73, 74, 75, 77, 78, 79, 80, 81, 82, 84, 85, 86, 87, 88, 89, 90, 91, 92, 93, 94, 95, 96, 97, 98, 99, 100, 101, 124]
theorem fns_ok : (fns.all fun f => fnOk Tryd.prog f) = true := by kernel_rfl
theorem mixed_ok : Tryd.prog.follows .mixedOrders = true := by kernel_rfl
/-- What stays: the library's variables that are read. -/
structure KOk (K : List (Nat × Obj)) : Prop where
  mx : ∃ m arr t fr, ((0 : Nat), Obj.cells arr t fr) ∈ K ∧ arr[0]? = some (Value.int .i64 m)
  pw : ∃ arr t fr, ((1 : Nat), Obj.cells arr t fr) ∈ K ∧ arr = (Lib.pow10Tab.map fun z => Value.int .u64 z).toArray
noncomputable def cx (K : List (Nat × Obj)) : Cx := { P := Tryd.prog, G := fun _ => none, K := K, T := tys, F := fns, tok := tys_ok, fok := fns_ok, mixed := mixed_ok, gpl := fun _ _ h => by cases h }
end Go.Proofs.YtfdopoijhjbamaaDoor
