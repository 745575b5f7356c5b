/- The types and functions of this seat, as the logic's context. Written by a program of this session. -/
import Derived.Test.YtjjoigokeicneaaAwJ
import Derived.Test.YtjjoigokeicneaaProg
import Derived.KernelRfl
namespace Go.Proofs.Ytjjoigokeicneaa
open Go.Aw

def tys : List (Nat × TD) := [(2, ⟨.int .i64, 1, 8, [.i .i64]⟩),
  (3, ⟨.int .i64, 1, 8, [.i .i64]⟩),
  (4, ⟨.bool, 1, 1, [.b]⟩),
  (5, ⟨.int .u8, 1, 1, [.i .u8]⟩),
  (7, ⟨.struct [(0, 1), (1, 1), (2, 1), (3, 1)], 4, 24, [.i .i64, .i .i64, .b, .i .u8]⟩),
  (9, ⟨.str, 1, 16, [.s]⟩),
  (12, ⟨.int .u64, 1, 8, [.i .u64]⟩),
  (13, ⟨.struct [(0, 1), (1, 1)], 2, 24, [.s, .i .u64]⟩),
  (15, ⟨.other, 1, 8, [.np]⟩),
  (16, ⟨.other, 1, 8, [.np]⟩),
  (17, ⟨.other, 1, 8, [.np]⟩),
  (18, ⟨.struct [(0, 1)], 1, 8, [.np]⟩),
  (21, ⟨.int .i32, 1, 4, [.i .i32]⟩),
  (22, ⟨.slice 3, 1, 24, [.ns]⟩),
  (29, ⟨.slice 5, 1, 24, [.ns]⟩),
  (36, ⟨.struct [(0, 1), (1, 1), (2, 1)], 3, 40, [.i .i64, .i .i64, .ns]⟩),
  (37, ⟨.struct [(0, 1), (1, 1), (2, 1)], 3, 40, [.i .i64, .i .i64, .ns]⟩),
  (39, ⟨.struct [(0, 1), (1, 1), (2, 1)], 3, 40, [.i .i64, .i .i64, .ns]⟩),
  (60, ⟨.other, 1, 8, [.nf]⟩),
  (63, ⟨.other, 1, 8, [.np]⟩),
  (64, ⟨.int .u64, 1, 8, [.i .u64]⟩),
  (65, ⟨.struct [(0, 1), (1, 1), (2, 1)], 3, 40, [.ns, .i .i64, .i .u64]⟩),
  (66, ⟨.struct [(0, 1), (1, 1), (2, 1)], 3, 40, [.ns, .i .i64, .i .u64]⟩),
  (86, ⟨.slice 39, 1, 24, [.ns]⟩),
  (88, ⟨.int .u64, 1, 8, [.i .u64]⟩),
  (93, ⟨.struct [(0, 1), (1, 1), (2, 1), (3, 1)], 4, 40, [.np, .np, .np, .s]⟩),
  (95, ⟨.arr 0 16, 0, 0, []⟩),
  (98, ⟨.int .u32, 1, 4, [.i .u32]⟩),
  (102, ⟨.other, 1, 8, [.np]⟩),
  (105, ⟨.struct [(0, 1), (1, 1), (2, 1), (3, 1), (4, 1), (5, 1), (6, 1), (7, 1), (8, 1), (9, 1), (10, 1)], 11, 48, [.i .u64, .i .u64, .i .u32, .i .u8, .i .u8, .i .u8, .i .u8, .nf, .np, .i .i32, .i .i32]⟩)]
theorem tys_ok : (tys.all fun p => tdOk Try.prog p.1 p.2) = true := by kernel_rfl
def fns : List Nat := [3, 4, 5, 6, 7, 8, 9, 10, 11, 12, 13, 14, 15, 16, 17, 18, 19, 20, 21, 22, 23, 24, 25, 26, 27, 28, 29, 30, 31, 32, 33, 34, 35, 36, 37, 38, 39, 40, 41, 42, 43, 44, 45, 46, 47, 48, 49, 50, 51, 52, 53, 54, 55, 56, 57, 58, 59, 60, 61, 62, 63, 64, 65, 66, 67, 68, 69, 70, 71, 72, 73, 74, 75, 76, 77, 78, 79, 80, 81, 82, 83, 84, 85, 86, 87, 88, 89, 90, 91, 92, 93, 94, 95, 96, 97, 98, 99, 100, 101, 102, 103, 104, 105, 106, 107, 108, 109, 110, 111, 112, 113]
theorem fns_ok : (fns.all fun f => fnOk Try.prog f) = true := by kernel_rfl
theorem mixed_ok : Try.prog.follows .mixedOrders = true := by kernel_rfl
noncomputable def cx : Cx := { P := Try.prog, G := fun _ => none, K := [], T := tys, F := fns, tok := tys_ok, fok := fns_ok, mixed := mixed_ok, gpl := fun _ _ h => by cases h }
end Go.Proofs.Ytjjoigokeicneaa
