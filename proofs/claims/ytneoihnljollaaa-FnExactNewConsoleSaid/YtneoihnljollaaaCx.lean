/- The types and functions of this seat, as the logic's context. Written by a program of this session. -/
import Derived.Test.YtneoihnljollaaaAwJ
import Derived.Test.YtneoihnljollaaaProg
import Derived.KernelRfl
namespace Go.Proofs.Ytneoihnljollaaa
open Go.Aw

def tys : List (Nat × TD) := [(2, ⟨.int .i64, 1, 8, [.i .i64]⟩),
  (3, ⟨.int .i64, 1, 8, [.i .i64]⟩),
  (4, ⟨.bool, 1, 1, [.b]⟩),
  (5, ⟨.int .u8, 1, 1, [.i .u8]⟩),
  (7, ⟨.struct [(0, 1), (1, 1), (2, 1), (3, 1)], 4, 24, [.i .i64, .i .i64, .b, .i .u8]⟩),
  (9, ⟨.str, 1, 16, [.s]⟩),
  (12, ⟨.int .u64, 1, 8, [.i .u64]⟩),
  (13, ⟨.struct [(0, 1), (1, 1)], 2, 24, [.s, .i .u64]⟩),
  (15, ⟨.other, 1, 8, [.np]⟩),
  (16, ⟨.other, 1, 8, [.np]⟩),
  (17, ⟨.other, 1, 8, [.np]⟩),
  (18, ⟨.struct [(0, 1)], 1, 8, [.np]⟩),
  (21, ⟨.int .i32, 1, 4, [.i .i32]⟩),
  (22, ⟨.slice 42, 1, 24, [.ns]⟩),
  (24, ⟨.slice 40, 1, 24, [.ns]⟩),
  (25, ⟨.struct [(0, 1), (1, 1), (2, 1)], 3, 40, [.s, .s, .i .i64]⟩),
  (26, ⟨.struct [(0, 1), (1, 1), (2, 1)], 3, 40, [.s, .s, .i .i64]⟩),
  (27, ⟨.struct [(0, 1), (1, 3)], 4, 64, [.ns, .s, .s, .i .i64]⟩),
  (28, ⟨.struct [(0, 1), (1, 3)], 4, 64, [.ns, .s, .s, .i .i64]⟩),
  (39, ⟨.struct [(0, 1), (1, 1), (2, 1), (3, 1), (4, 1), (5, 1)], 6, 48, [.i .i64, .i .i64, .i .i64, .i .i64, .i .i64, .i .i64]⟩),
  (40, ⟨.struct [(0, 1), (1, 1), (2, 1), (3, 1), (4, 1), (5, 1)], 6, 48, [.i .i64, .i .i64, .i .i64, .i .i64, .i .i64, .i .i64]⟩),
  (42, ⟨.struct [(0, 1), (1, 1), (2, 1), (3, 1), (4, 1), (5, 1)], 6, 48, [.i .i64, .i .i64, .i .i64, .i .i64, .i .i64, .i .i64]⟩),
  (50, ⟨.struct [(0, 1), (1, 1), (2, 1), (3, 1)], 4, 40, [.np, .np, .np, .s]⟩),
  (52, ⟨.arr 0 16, 0, 0, []⟩),
  (56, ⟨.int .u32, 1, 4, [.i .u32]⟩),
  (60, ⟨.other, 1, 8, [.np]⟩),
  (63, ⟨.struct [(0, 1), (1, 1), (2, 1), (3, 1), (4, 1), (5, 1), (6, 1), (7, 1), (8, 1), (9, 1), (10, 1)], 11, 48, [.i .u64, .i .u64, .i .u32, .i .u8, .i .u8, .i .u8, .i .u8, .nf, .np, .i .i32, .i .i32]⟩)]
theorem tys_ok : (tys.all fun p => tdOk Try.prog p.1 p.2) = true := by kernel_rfl
def fns : List Nat := [3, 4, 5, 6, 7, 8, 9, 10, 11, 12, 13, 14, 15, 16, 17, 18, 19, 20, 21, 22, 23, 24, 25, 26, 27, 28, 29, 30]
theorem fns_ok : (fns.all fun f => fnOk Try.prog f) = true := by kernel_rfl
theorem mixed_ok : Try.prog.follows .mixedOrders = true := by kernel_rfl
noncomputable def cx : Cx := { P := Try.prog, G := fun _ => none, K := [], T := tys, F := fns, tok := tys_ok, fok := fns_ok, mixed := mixed_ok, gpl := fun _ _ h => by cases h }
end Go.Proofs.Ytneoihnljollaaa
