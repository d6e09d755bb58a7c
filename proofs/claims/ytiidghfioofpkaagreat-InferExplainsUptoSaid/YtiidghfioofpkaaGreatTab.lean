/-
  What each type of the translation is, for the abstract logic. Written by a program of ours.
-/
import Derived.Test.YtiidghfioofpkaaGreatProg
import Derived.Test.YtiidghfioofpkaaGreatAbsWp
set_option maxRecDepth 100000
namespace Go.Proofs.YtiidghfioofpkaaGreat
open Go Go.Abs
@[simp] theorem ti_1 : tinfo Tryz.prog 1 = { ok := true, agg := false, cells := 1, bytes := 8, kind := .func, zok := true, zero := [.lit .nilFunc] } := by kernel_rfl
@[simp] theorem ti_2 : tinfo Tryz.prog 2 = { ok := true, agg := false, cells := 1, bytes := 8, kind := .int .i64, zok := true, zero := [.int .i64 0] } := by kernel_rfl
@[simp] theorem fl_2 : flat Tryz.prog 50 2 = some [.int] := by kernel_rfl
@[simp] theorem ti_3 : tinfo Tryz.prog 3 = { ok := true, agg := false, cells := 1, bytes := 8, kind := .int .i64, zok := true, zero := [.int .i64 0] } := by kernel_rfl
@[simp] theorem fl_3 : flat Tryz.prog 50 3 = some [.int] := by kernel_rfl
@[simp] theorem ti_4 : tinfo Tryz.prog 4 = { ok := true, agg := false, cells := 1, bytes := 1, kind := .bool, zok := true, zero := [.bool false] } := by kernel_rfl
@[simp] theorem fl_4 : flat Tryz.prog 50 4 = some [.bool] := by kernel_rfl
@[simp] theorem ti_5 : tinfo Tryz.prog 5 = { ok := true, agg := false, cells := 1, bytes := 1, kind := .int .u8, zok := true, zero := [.int .u8 0] } := by kernel_rfl
@[simp] theorem fl_5 : flat Tryz.prog 50 5 = some [.int] := by kernel_rfl
@[simp] theorem ti_6 : tinfo Tryz.prog 6 = { ok := true, agg := false, cells := 1, bytes := 1, kind := .int .u8, zok := true, zero := [.int .u8 0] } := by kernel_rfl
@[simp] theorem fl_6 : flat Tryz.prog 50 6 = some [.int] := by kernel_rfl
@[simp] theorem ti_7 : tinfo Tryz.prog 7 = { ok := true, agg := true, cells := 4, bytes := 24, kind := .struct [(0, 1, 2), (1, 1, 3), (2, 1, 4), (3, 1, 6)], zok := true, zero := [.int .i64 0, .int .i64 0, .bool false, .int .u8 0] } := by kernel_rfl
@[simp] theorem ti_8 : tinfo Tryz.prog 8 = { ok := true, agg := true, cells := 4, bytes := 24, kind := .struct [(0, 1, 2), (1, 1, 3), (2, 1, 4), (3, 1, 6)], zok := true, zero := [.int .i64 0, .int .i64 0, .bool false, .int .u8 0] } := by kernel_rfl
@[simp] theorem ti_9 : tinfo Tryz.prog 9 = { ok := true, agg := false, cells := 1, bytes := 16, kind := .string, zok := true, zero := [.str []] } := by kernel_rfl
@[simp] theorem fl_9 : flat Tryz.prog 50 9 = some [.str] := by kernel_rfl
@[simp] theorem ti_10 : tinfo Tryz.prog 10 = { ok := true, agg := false, cells := 1, bytes := 16, kind := .string, zok := true, zero := [.str []] } := by kernel_rfl
@[simp] theorem fl_10 : flat Tryz.prog 50 10 = some [.str] := by kernel_rfl
@[simp] theorem ti_11 : tinfo Tryz.prog 11 = { ok := true, agg := false, cells := 1, bytes := 16, kind := .string, zok := true, zero := [.str []] } := by kernel_rfl
@[simp] theorem fl_11 : flat Tryz.prog 50 11 = some [.str] := by kernel_rfl
@[simp] theorem ti_12 : tinfo Tryz.prog 12 = { ok := true, agg := false, cells := 1, bytes := 8, kind := .int .u64, zok := true, zero := [.int .u64 0] } := by kernel_rfl
@[simp] theorem fl_12 : flat Tryz.prog 50 12 = some [.int] := by kernel_rfl
@[simp] theorem ti_13 : tinfo Tryz.prog 13 = { ok := true, agg := true, cells := 2, bytes := 24, kind := .struct [(0, 1, 9), (1, 1, 12)], zok := true, zero := [.str [], .int .u64 0] } := by kernel_rfl
@[simp] theorem ti_14 : tinfo Tryz.prog 14 = { ok := true, agg := true, cells := 2, bytes := 24, kind := .struct [(0, 1, 9), (1, 1, 12)], zok := true, zero := [.str [], .int .u64 0] } := by kernel_rfl
@[simp] theorem ti_15 : tinfo Tryz.prog 15 = { ok := true, agg := false, cells := 1, bytes := 8, kind := .pointer 217, zok := true, zero := [.lit (.pointer none)] } := by kernel_rfl
@[simp] theorem ti_16 : tinfo Tryz.prog 16 = { ok := true, agg := false, cells := 1, bytes := 8, kind := .pointer 220, zok := true, zero := [.lit (.pointer none)] } := by kernel_rfl
@[simp] theorem ti_17 : tinfo Tryz.prog 17 = { ok := true, agg := false, cells := 1, bytes := 8, kind := .pointer 229, zok := true, zero := [.lit (.pointer none)] } := by kernel_rfl
@[simp] theorem ti_18 : tinfo Tryz.prog 18 = { ok := true, agg := true, cells := 1, bytes := 8, kind := .struct [(0, 1, 17)], zok := true, zero := [.lit (.pointer none)] } := by kernel_rfl
@[simp] theorem ti_19 : tinfo Tryz.prog 19 = { ok := true, agg := true, cells := 1, bytes := 8, kind := .struct [(0, 1, 17)], zok := true, zero := [.lit (.pointer none)] } := by kernel_rfl
@[simp] theorem ti_20 : tinfo Tryz.prog 20 = { ok := true, agg := false, cells := 1, bytes := 16, kind := .iface, zok := true, zero := [.lit .nilIface] } := by kernel_rfl
@[simp] theorem ti_21 : tinfo Tryz.prog 21 = { ok := true, agg := false, cells := 1, bytes := 4, kind := .int .i32, zok := true, zero := [.int .i32 0] } := by kernel_rfl
@[simp] theorem fl_21 : flat Tryz.prog 50 21 = some [.int] := by kernel_rfl
@[simp] theorem ti_22 : tinfo Tryz.prog 22 = { ok := true, agg := false, cells := 1, bytes := 24, kind := .slice 76, zok := true, zero := [.nil] } := by kernel_rfl
@[simp] theorem ti_23 : tinfo Tryz.prog 23 = { ok := true, agg := false, cells := 1, bytes := 24, kind := .slice 78, zok := true, zero := [.nil] } := by kernel_rfl
@[simp] theorem ti_24 : tinfo Tryz.prog 24 = { ok := true, agg := true, cells := 2, bytes := 48, kind := .struct [(0, 1, 22), (1, 1, 23)], zok := true, zero := [.nil, .nil] } := by kernel_rfl
@[simp] theorem ti_25 : tinfo Tryz.prog 25 = { ok := true, agg := true, cells := 2, bytes := 48, kind := .struct [(0, 1, 22), (1, 1, 23)], zok := true, zero := [.nil, .nil] } := by kernel_rfl
@[simp] theorem ti_26 : tinfo Tryz.prog 26 = { ok := true, agg := false, cells := 1, bytes := 24, kind := .slice 80, zok := true, zero := [.nil] } := by kernel_rfl
@[simp] theorem ti_27 : tinfo Tryz.prog 27 = { ok := true, agg := true, cells := 3, bytes := 72, kind := .struct [(0, 2, 25), (2, 1, 26)], zok := true, zero := [.nil, .nil, .nil] } := by kernel_rfl
@[simp] theorem ti_28 : tinfo Tryz.prog 28 = { ok := true, agg := true, cells := 3, bytes := 72, kind := .struct [(0, 2, 25), (2, 1, 26)], zok := true, zero := [.nil, .nil, .nil] } := by kernel_rfl
@[simp] theorem ti_29 : tinfo Tryz.prog 29 = { ok := true, agg := false, cells := 1, bytes := 24, kind := .slice 231, zok := true, zero := [.nil] } := by kernel_rfl
@[simp] theorem ti_30 : tinfo Tryz.prog 30 = { ok := true, agg := true, cells := 8, bytes := 112, kind := .struct [(0, 1, 9), (1, 1, 9), (2, 1, 3), (3, 1, 9), (4, 1, 9), (5, 1, 3), (6, 1, 3), (7, 1, 29)], zok := true, zero := [.str [], .str [], .int .i64 0, .str [], .str [], .int .i64 0, .int .i64 0, .nil] } := by kernel_rfl
@[simp] theorem ti_31 : tinfo Tryz.prog 31 = { ok := true, agg := true, cells := 8, bytes := 112, kind := .struct [(0, 1, 9), (1, 1, 9), (2, 1, 3), (3, 1, 9), (4, 1, 9), (5, 1, 3), (6, 1, 3), (7, 1, 29)], zok := true, zero := [.str [], .str [], .int .i64 0, .str [], .str [], .int .i64 0, .int .i64 0, .nil] } := by kernel_rfl
@[simp] theorem ti_32 : tinfo Tryz.prog 32 = { ok := true, agg := false, cells := 1, bytes := 8, kind := .func, zok := true, zero := [.lit .nilFunc] } := by kernel_rfl
@[simp] theorem ti_33 : tinfo Tryz.prog 33 = { ok := true, agg := false, cells := 1, bytes := 8, kind := .func, zok := true, zero := [.lit .nilFunc] } := by kernel_rfl
@[simp] theorem ti_34 : tinfo Tryz.prog 34 = { ok := true, agg := false, cells := 1, bytes := 24, kind := .slice 31, zok := true, zero := [.nil] } := by kernel_rfl
@[simp] theorem ti_35 : tinfo Tryz.prog 35 = { ok := true, agg := false, cells := 1, bytes := 8, kind := .func, zok := true, zero := [.lit .nilFunc] } := by kernel_rfl
@[simp] theorem ti_36 : tinfo Tryz.prog 36 = { ok := true, agg := false, cells := 1, bytes := 24, kind := .slice 9, zok := true, zero := [.nil] } := by kernel_rfl
@[simp] theorem ti_37 : tinfo Tryz.prog 37 = { ok := true, agg := false, cells := 1, bytes := 8, kind := .int .i64, zok := true, zero := [.int .i64 0] } := by kernel_rfl
@[simp] theorem fl_37 : flat Tryz.prog 50 37 = some [.int] := by kernel_rfl
@[simp] theorem ti_39 : tinfo Tryz.prog 39 = { ok := true, agg := false, cells := 1, bytes := 8, kind := .func, zok := true, zero := [.lit .nilFunc] } := by kernel_rfl
@[simp] theorem ti_41 : tinfo Tryz.prog 41 = { ok := true, agg := false, cells := 1, bytes := 8, kind := .func, zok := true, zero := [.lit .nilFunc] } := by kernel_rfl
@[simp] theorem ti_42 : tinfo Tryz.prog 42 = { ok := true, agg := false, cells := 1, bytes := 8, kind := .func, zok := true, zero := [.lit .nilFunc] } := by kernel_rfl
@[simp] theorem ti_43 : tinfo Tryz.prog 43 = { ok := true, agg := false, cells := 1, bytes := 8, kind := .func, zok := true, zero := [.lit .nilFunc] } := by kernel_rfl
@[simp] theorem ti_44 : tinfo Tryz.prog 44 = { ok := true, agg := true, cells := 3, bytes := 40, kind := .struct [(0, 1, 36), (1, 1, 3), (2, 1, 3)], zok := true, zero := [.nil, .int .i64 0, .int .i64 0] } := by kernel_rfl
@[simp] theorem ti_45 : tinfo Tryz.prog 45 = { ok := true, agg := true, cells := 3, bytes := 40, kind := .struct [(0, 1, 36), (1, 1, 3), (2, 1, 3)], zok := true, zero := [.nil, .int .i64 0, .int .i64 0] } := by kernel_rfl
@[simp] theorem ti_46 : tinfo Tryz.prog 46 = { ok := true, agg := false, cells := 1, bytes := 8, kind := .func, zok := true, zero := [.lit .nilFunc] } := by kernel_rfl
@[simp] theorem ti_47 : tinfo Tryz.prog 47 = { ok := true, agg := false, cells := 1, bytes := 24, kind := .slice 3, zok := true, zero := [.nil] } := by kernel_rfl
@[simp] theorem ti_49 : tinfo Tryz.prog 49 = { ok := true, agg := false, cells := 1, bytes := 8, kind := .func, zok := true, zero := [.lit .nilFunc] } := by kernel_rfl
@[simp] theorem ti_51 : tinfo Tryz.prog 51 = { ok := true, agg := false, cells := 1, bytes := 8, kind := .func, zok := true, zero := [.lit .nilFunc] } := by kernel_rfl
@[simp] theorem ti_52 : tinfo Tryz.prog 52 = { ok := true, agg := false, cells := 1, bytes := 8, kind := .func, zok := true, zero := [.lit .nilFunc] } := by kernel_rfl
@[simp] theorem ti_53 : tinfo Tryz.prog 53 = { ok := true, agg := false, cells := 1, bytes := 8, kind := .func, zok := true, zero := [.lit .nilFunc] } := by kernel_rfl
@[simp] theorem ti_54 : tinfo Tryz.prog 54 = { ok := true, agg := false, cells := 1, bytes := 24, kind := .slice 71, zok := true, zero := [.nil] } := by kernel_rfl
@[simp] theorem ti_56 : tinfo Tryz.prog 56 = { ok := true, agg := false, cells := 1, bytes := 8, kind := .func, zok := true, zero := [.lit .nilFunc] } := by kernel_rfl
@[simp] theorem ti_58 : tinfo Tryz.prog 58 = { ok := true, agg := false, cells := 1, bytes := 8, kind := .func, zok := true, zero := [.lit .nilFunc] } := by kernel_rfl
@[simp] theorem ti_59 : tinfo Tryz.prog 59 = { ok := true, agg := false, cells := 1, bytes := 8, kind := .func, zok := true, zero := [.lit .nilFunc] } := by kernel_rfl
@[simp] theorem ti_60 : tinfo Tryz.prog 60 = { ok := true, agg := false, cells := 1, bytes := 8, kind := .func, zok := true, zero := [.lit .nilFunc] } := by kernel_rfl
@[simp] theorem ti_61 : tinfo Tryz.prog 61 = { ok := true, agg := false, cells := 1, bytes := 8, kind := .func, zok := true, zero := [.lit .nilFunc] } := by kernel_rfl
@[simp] theorem ti_62 : tinfo Tryz.prog 62 = { ok := true, agg := false, cells := 1, bytes := 24, kind := .slice 66, zok := true, zero := [.nil] } := by kernel_rfl
@[simp] theorem ti_63 : tinfo Tryz.prog 63 = { ok := true, agg := false, cells := 1, bytes := 24, kind := .slice 168, zok := true, zero := [.nil] } := by kernel_rfl
@[simp] theorem ti_64 : tinfo Tryz.prog 64 = { ok := true, agg := false, cells := 1, bytes := 24, kind := .slice 126, zok := true, zero := [.nil] } := by kernel_rfl
@[simp] theorem ti_65 : tinfo Tryz.prog 65 = { ok := true, agg := true, cells := 6, bytes := 96, kind := .struct [(0, 1, 9), (1, 1, 9), (2, 1, 3), (3, 1, 3), (4, 1, 63), (5, 1, 64)], zok := true, zero := [.str [], .str [], .int .i64 0, .int .i64 0, .nil, .nil] } := by kernel_rfl
@[simp] theorem ti_66 : tinfo Tryz.prog 66 = { ok := true, agg := true, cells := 6, bytes := 96, kind := .struct [(0, 1, 9), (1, 1, 9), (2, 1, 3), (3, 1, 3), (4, 1, 63), (5, 1, 64)], zok := true, zero := [.str [], .str [], .int .i64 0, .int .i64 0, .nil, .nil] } := by kernel_rfl
@[simp] theorem ti_67 : tinfo Tryz.prog 67 = { ok := true, agg := false, cells := 1, bytes := 8, kind := .func, zok := true, zero := [.lit .nilFunc] } := by kernel_rfl
@[simp] theorem ti_69 : tinfo Tryz.prog 69 = { ok := true, agg := false, cells := 1, bytes := 8, kind := .func, zok := true, zero := [.lit .nilFunc] } := by kernel_rfl
@[simp] theorem ti_70 : tinfo Tryz.prog 70 = { ok := true, agg := true, cells := 3, bytes := 40, kind := .struct [(0, 1, 9), (1, 1, 3), (2, 1, 9)], zok := true, zero := [.str [], .int .i64 0, .str []] } := by kernel_rfl
@[simp] theorem fl_70 : flat Tryz.prog 50 70 = some [.str, .int, .str] := by kernel_rfl
@[simp] theorem eg_70 : Tryz.prog.eqGuardType Tryz.prog.depth 70 = false := by kernel_rfl
@[simp] theorem ti_71 : tinfo Tryz.prog 71 = { ok := true, agg := true, cells := 3, bytes := 40, kind := .struct [(0, 1, 9), (1, 1, 3), (2, 1, 9)], zok := true, zero := [.str [], .int .i64 0, .str []] } := by kernel_rfl
@[simp] theorem fl_71 : flat Tryz.prog 50 71 = some [.str, .int, .str] := by kernel_rfl
@[simp] theorem eg_71 : Tryz.prog.eqGuardType Tryz.prog.depth 71 = false := by kernel_rfl
@[simp] theorem ti_72 : tinfo Tryz.prog 72 = { ok := true, agg := false, cells := 1, bytes := 24, kind := .slice 36, zok := true, zero := [.nil] } := by kernel_rfl
@[simp] theorem ti_74 : tinfo Tryz.prog 74 = { ok := true, agg := false, cells := 1, bytes := 8, kind := .func, zok := true, zero := [.lit .nilFunc] } := by kernel_rfl
@[simp] theorem ti_75 : tinfo Tryz.prog 75 = { ok := true, agg := true, cells := 3, bytes := 40, kind := .struct [(0, 1, 9), (1, 1, 3), (2, 1, 9)], zok := true, zero := [.str [], .int .i64 0, .str []] } := by kernel_rfl
@[simp] theorem fl_75 : flat Tryz.prog 50 75 = some [.str, .int, .str] := by kernel_rfl
@[simp] theorem eg_75 : Tryz.prog.eqGuardType Tryz.prog.depth 75 = false := by kernel_rfl
@[simp] theorem ti_76 : tinfo Tryz.prog 76 = { ok := true, agg := true, cells := 3, bytes := 40, kind := .struct [(0, 1, 9), (1, 1, 3), (2, 1, 9)], zok := true, zero := [.str [], .int .i64 0, .str []] } := by kernel_rfl
@[simp] theorem fl_76 : flat Tryz.prog 50 76 = some [.str, .int, .str] := by kernel_rfl
@[simp] theorem eg_76 : Tryz.prog.eqGuardType Tryz.prog.depth 76 = false := by kernel_rfl
@[simp] theorem ti_77 : tinfo Tryz.prog 77 = { ok := true, agg := true, cells := 4, bytes := 48, kind := .struct [(0, 1, 9), (1, 1, 9), (2, 1, 3), (3, 1, 3)], zok := true, zero := [.str [], .str [], .int .i64 0, .int .i64 0] } := by kernel_rfl
@[simp] theorem fl_77 : flat Tryz.prog 50 77 = some [.str, .str, .int, .int] := by kernel_rfl
@[simp] theorem eg_77 : Tryz.prog.eqGuardType Tryz.prog.depth 77 = false := by kernel_rfl
@[simp] theorem ti_78 : tinfo Tryz.prog 78 = { ok := true, agg := true, cells := 4, bytes := 48, kind := .struct [(0, 1, 9), (1, 1, 9), (2, 1, 3), (3, 1, 3)], zok := true, zero := [.str [], .str [], .int .i64 0, .int .i64 0] } := by kernel_rfl
@[simp] theorem fl_78 : flat Tryz.prog 50 78 = some [.str, .str, .int, .int] := by kernel_rfl
@[simp] theorem eg_78 : Tryz.prog.eqGuardType Tryz.prog.depth 78 = false := by kernel_rfl
@[simp] theorem ti_79 : tinfo Tryz.prog 79 = { ok := true, agg := true, cells := 3, bytes := 32, kind := .struct [(0, 1, 9), (1, 1, 4), (2, 1, 3)], zok := true, zero := [.str [], .bool false, .int .i64 0] } := by kernel_rfl
@[simp] theorem fl_79 : flat Tryz.prog 50 79 = some [.str, .bool, .int] := by kernel_rfl
@[simp] theorem eg_79 : Tryz.prog.eqGuardType Tryz.prog.depth 79 = false := by kernel_rfl
@[simp] theorem ti_80 : tinfo Tryz.prog 80 = { ok := true, agg := true, cells := 3, bytes := 32, kind := .struct [(0, 1, 9), (1, 1, 4), (2, 1, 3)], zok := true, zero := [.str [], .bool false, .int .i64 0] } := by kernel_rfl
@[simp] theorem fl_80 : flat Tryz.prog 50 80 = some [.str, .bool, .int] := by kernel_rfl
@[simp] theorem eg_80 : Tryz.prog.eqGuardType Tryz.prog.depth 80 = false := by kernel_rfl
@[simp] theorem ti_81 : tinfo Tryz.prog 81 = { ok := true, agg := false, cells := 1, bytes := 8, kind := .func, zok := true, zero := [.lit .nilFunc] } := by kernel_rfl
@[simp] theorem ti_83 : tinfo Tryz.prog 83 = { ok := true, agg := false, cells := 1, bytes := 8, kind := .func, zok := true, zero := [.lit .nilFunc] } := by kernel_rfl
@[simp] theorem ti_84 : tinfo Tryz.prog 84 = { ok := true, agg := false, cells := 1, bytes := 8, kind := .func, zok := true, zero := [.lit .nilFunc] } := by kernel_rfl
@[simp] theorem ti_85 : tinfo Tryz.prog 85 = { ok := true, agg := false, cells := 1, bytes := 8, kind := .func, zok := true, zero := [.lit .nilFunc] } := by kernel_rfl
@[simp] theorem ti_86 : tinfo Tryz.prog 86 = { ok := true, agg := false, cells := 1, bytes := 8, kind := .func, zok := true, zero := [.lit .nilFunc] } := by kernel_rfl
@[simp] theorem ti_87 : tinfo Tryz.prog 87 = { ok := true, agg := false, cells := 1, bytes := 8, kind := .func, zok := true, zero := [.lit .nilFunc] } := by kernel_rfl
@[simp] theorem ti_89 : tinfo Tryz.prog 89 = { ok := true, agg := false, cells := 1, bytes := 8, kind := .func, zok := true, zero := [.lit .nilFunc] } := by kernel_rfl
@[simp] theorem ti_90 : tinfo Tryz.prog 90 = { ok := true, agg := false, cells := 1, bytes := 8, kind := .func, zok := true, zero := [.lit .nilFunc] } := by kernel_rfl
@[simp] theorem ti_91 : tinfo Tryz.prog 91 = { ok := true, agg := false, cells := 1, bytes := 8, kind := .func, zok := true, zero := [.lit .nilFunc] } := by kernel_rfl
@[simp] theorem ti_92 : tinfo Tryz.prog 92 = { ok := true, agg := false, cells := 1, bytes := 8, kind := .func, zok := true, zero := [.lit .nilFunc] } := by kernel_rfl
@[simp] theorem ti_94 : tinfo Tryz.prog 94 = { ok := true, agg := false, cells := 1, bytes := 8, kind := .func, zok := true, zero := [.lit .nilFunc] } := by kernel_rfl
@[simp] theorem ti_95 : tinfo Tryz.prog 95 = { ok := true, agg := false, cells := 1, bytes := 8, kind := .func, zok := true, zero := [.lit .nilFunc] } := by kernel_rfl
@[simp] theorem ti_96 : tinfo Tryz.prog 96 = { ok := true, agg := false, cells := 1, bytes := 8, kind := .func, zok := true, zero := [.lit .nilFunc] } := by kernel_rfl
@[simp] theorem ti_97 : tinfo Tryz.prog 97 = { ok := true, agg := false, cells := 1, bytes := 8, kind := .map 9 3, zok := true, zero := [.lit (.map none)] } := by kernel_rfl
@[simp] theorem ti_98 : tinfo Tryz.prog 98 = { ok := true, agg := false, cells := 1, bytes := 24, kind := .slice 103, zok := true, zero := [.nil] } := by kernel_rfl
@[simp] theorem ti_99 : tinfo Tryz.prog 99 = { ok := true, agg := true, cells := 3, bytes := 56, kind := .struct [(0, 1, 36), (1, 1, 97), (2, 1, 98)], zok := true, zero := [.nil, .lit (.map none), .nil] } := by kernel_rfl
@[simp] theorem ti_100 : tinfo Tryz.prog 100 = { ok := true, agg := true, cells := 3, bytes := 56, kind := .struct [(0, 1, 36), (1, 1, 97), (2, 1, 98)], zok := true, zero := [.nil, .lit (.map none), .nil] } := by kernel_rfl
@[simp] theorem ti_101 : tinfo Tryz.prog 101 = { ok := true, agg := false, cells := 1, bytes := 8, kind := .func, zok := true, zero := [.lit .nilFunc] } := by kernel_rfl
@[simp] theorem ti_103 : tinfo Tryz.prog 103 = { ok := true, agg := false, cells := 1, bytes := 24, kind := .slice 106, zok := true, zero := [.nil] } := by kernel_rfl
@[simp] theorem ti_104 : tinfo Tryz.prog 104 = { ok := true, agg := false, cells := 1, bytes := 8, kind := .func, zok := true, zero := [.lit .nilFunc] } := by kernel_rfl
@[simp] theorem ti_105 : tinfo Tryz.prog 105 = { ok := true, agg := true, cells := 3, bytes := 24, kind := .struct [(0, 1, 3), (1, 1, 3), (2, 1, 3)], zok := true, zero := [.int .i64 0, .int .i64 0, .int .i64 0] } := by kernel_rfl
@[simp] theorem fl_105 : flat Tryz.prog 50 105 = some [.int, .int, .int] := by kernel_rfl
@[simp] theorem eg_105 : Tryz.prog.eqGuardType Tryz.prog.depth 105 = false := by kernel_rfl
@[simp] theorem ti_106 : tinfo Tryz.prog 106 = { ok := true, agg := true, cells := 3, bytes := 24, kind := .struct [(0, 1, 3), (1, 1, 3), (2, 1, 3)], zok := true, zero := [.int .i64 0, .int .i64 0, .int .i64 0] } := by kernel_rfl
@[simp] theorem fl_106 : flat Tryz.prog 50 106 = some [.int, .int, .int] := by kernel_rfl
@[simp] theorem eg_106 : Tryz.prog.eqGuardType Tryz.prog.depth 106 = false := by kernel_rfl
@[simp] theorem ti_107 : tinfo Tryz.prog 107 = { ok := true, agg := false, cells := 1, bytes := 8, kind := .func, zok := true, zero := [.lit .nilFunc] } := by kernel_rfl
@[simp] theorem ti_108 : tinfo Tryz.prog 108 = { ok := true, agg := false, cells := 1, bytes := 8, kind := .func, zok := true, zero := [.lit .nilFunc] } := by kernel_rfl
@[simp] theorem ti_109 : tinfo Tryz.prog 109 = { ok := true, agg := false, cells := 1, bytes := 8, kind := .func, zok := true, zero := [.lit .nilFunc] } := by kernel_rfl
@[simp] theorem ti_110 : tinfo Tryz.prog 110 = { ok := true, agg := false, cells := 1, bytes := 8, kind := .func, zok := true, zero := [.lit .nilFunc] } := by kernel_rfl
@[simp] theorem ti_111 : tinfo Tryz.prog 111 = { ok := true, agg := false, cells := 1, bytes := 8, kind := .func, zok := true, zero := [.lit .nilFunc] } := by kernel_rfl
@[simp] theorem ti_112 : tinfo Tryz.prog 112 = { ok := true, agg := false, cells := 1, bytes := 8, kind := .func, zok := true, zero := [.lit .nilFunc] } := by kernel_rfl
@[simp] theorem ti_113 : tinfo Tryz.prog 113 = { ok := true, agg := false, cells := 1, bytes := 8, kind := .func, zok := true, zero := [.lit .nilFunc] } := by kernel_rfl
@[simp] theorem ti_115 : tinfo Tryz.prog 115 = { ok := true, agg := false, cells := 1, bytes := 8, kind := .func, zok := true, zero := [.lit .nilFunc] } := by kernel_rfl
@[simp] theorem ti_116 : tinfo Tryz.prog 116 = { ok := true, agg := false, cells := 1, bytes := 8, kind := .func, zok := true, zero := [.lit .nilFunc] } := by kernel_rfl
@[simp] theorem ti_117 : tinfo Tryz.prog 117 = { ok := true, agg := false, cells := 1, bytes := 8, kind := .int .u64, zok := true, zero := [.int .u64 0] } := by kernel_rfl
@[simp] theorem fl_117 : flat Tryz.prog 50 117 = some [.int] := by kernel_rfl
@[simp] theorem ti_119 : tinfo Tryz.prog 119 = { ok := true, agg := false, cells := 1, bytes := 8, kind := .func, zok := true, zero := [.lit .nilFunc] } := by kernel_rfl
@[simp] theorem ti_120 : tinfo Tryz.prog 120 = { ok := true, agg := false, cells := 1, bytes := 8, kind := .func, zok := true, zero := [.lit .nilFunc] } := by kernel_rfl
@[simp] theorem ti_121 : tinfo Tryz.prog 121 = { ok := true, agg := false, cells := 1, bytes := 8, kind := .func, zok := true, zero := [.lit .nilFunc] } := by kernel_rfl
@[simp] theorem ti_122 : tinfo Tryz.prog 122 = { ok := true, agg := false, cells := 1, bytes := 8, kind := .func, zok := true, zero := [.lit .nilFunc] } := by kernel_rfl
@[simp] theorem ti_123 : tinfo Tryz.prog 123 = { ok := true, agg := false, cells := 1, bytes := 8, kind := .func, zok := true, zero := [.lit .nilFunc] } := by kernel_rfl
@[simp] theorem ti_124 : tinfo Tryz.prog 124 = { ok := true, agg := false, cells := 1, bytes := 8, kind := .func, zok := true, zero := [.lit .nilFunc] } := by kernel_rfl
@[simp] theorem ti_125 : tinfo Tryz.prog 125 = { ok := true, agg := true, cells := 2, bytes := 16, kind := .struct [(0, 1, 3), (1, 1, 3)], zok := true, zero := [.int .i64 0, .int .i64 0] } := by kernel_rfl
@[simp] theorem fl_125 : flat Tryz.prog 50 125 = some [.int, .int] := by kernel_rfl
@[simp] theorem eg_125 : Tryz.prog.eqGuardType Tryz.prog.depth 125 = false := by kernel_rfl
@[simp] theorem ti_126 : tinfo Tryz.prog 126 = { ok := true, agg := true, cells := 2, bytes := 16, kind := .struct [(0, 1, 3), (1, 1, 3)], zok := true, zero := [.int .i64 0, .int .i64 0] } := by kernel_rfl
@[simp] theorem fl_126 : flat Tryz.prog 50 126 = some [.int, .int] := by kernel_rfl
@[simp] theorem eg_126 : Tryz.prog.eqGuardType Tryz.prog.depth 126 = false := by kernel_rfl
@[simp] theorem ti_127 : tinfo Tryz.prog 127 = { ok := true, agg := false, cells := 1, bytes := 8, kind := .func, zok := true, zero := [.lit .nilFunc] } := by kernel_rfl
@[simp] theorem ti_128 : tinfo Tryz.prog 128 = { ok := true, agg := false, cells := 1, bytes := 8, kind := .func, zok := true, zero := [.lit .nilFunc] } := by kernel_rfl
@[simp] theorem ti_129 : tinfo Tryz.prog 129 = { ok := true, agg := false, cells := 1, bytes := 8, kind := .func, zok := true, zero := [.lit .nilFunc] } := by kernel_rfl
@[simp] theorem ti_130 : tinfo Tryz.prog 130 = { ok := true, agg := false, cells := 1, bytes := 8, kind := .func, zok := true, zero := [.lit .nilFunc] } := by kernel_rfl
@[simp] theorem ti_131 : tinfo Tryz.prog 131 = { ok := true, agg := false, cells := 1, bytes := 8, kind := .func, zok := true, zero := [.lit .nilFunc] } := by kernel_rfl
@[simp] theorem ti_132 : tinfo Tryz.prog 132 = { ok := true, agg := false, cells := 1, bytes := 8, kind := .func, zok := true, zero := [.lit .nilFunc] } := by kernel_rfl
@[simp] theorem ti_133 : tinfo Tryz.prog 133 = { ok := true, agg := false, cells := 1, bytes := 8, kind := .func, zok := true, zero := [.lit .nilFunc] } := by kernel_rfl
@[simp] theorem ti_134 : tinfo Tryz.prog 134 = { ok := true, agg := false, cells := 1, bytes := 8, kind := .func, zok := true, zero := [.lit .nilFunc] } := by kernel_rfl
@[simp] theorem ti_136 : tinfo Tryz.prog 136 = { ok := true, agg := false, cells := 1, bytes := 8, kind := .func, zok := true, zero := [.lit .nilFunc] } := by kernel_rfl
@[simp] theorem ti_137 : tinfo Tryz.prog 137 = { ok := true, agg := false, cells := 1, bytes := 24, kind := .slice 4, zok := true, zero := [.nil] } := by kernel_rfl
@[simp] theorem ti_138 : tinfo Tryz.prog 138 = { ok := true, agg := false, cells := 1, bytes := 8, kind := .func, zok := true, zero := [.lit .nilFunc] } := by kernel_rfl
@[simp] theorem ti_139 : tinfo Tryz.prog 139 = { ok := true, agg := false, cells := 1, bytes := 8, kind := .func, zok := true, zero := [.lit .nilFunc] } := by kernel_rfl
@[simp] theorem ti_140 : tinfo Tryz.prog 140 = { ok := true, agg := false, cells := 1, bytes := 8, kind := .func, zok := true, zero := [.lit .nilFunc] } := by kernel_rfl
@[simp] theorem ti_141 : tinfo Tryz.prog 141 = { ok := true, agg := false, cells := 1, bytes := 8, kind := .func, zok := true, zero := [.lit .nilFunc] } := by kernel_rfl
@[simp] theorem ti_142 : tinfo Tryz.prog 142 = { ok := true, agg := false, cells := 1, bytes := 8, kind := .func, zok := true, zero := [.lit .nilFunc] } := by kernel_rfl
@[simp] theorem ti_143 : tinfo Tryz.prog 143 = { ok := true, agg := false, cells := 1, bytes := 8, kind := .func, zok := true, zero := [.lit .nilFunc] } := by kernel_rfl
@[simp] theorem ti_144 : tinfo Tryz.prog 144 = { ok := true, agg := false, cells := 1, bytes := 8, kind := .func, zok := true, zero := [.lit .nilFunc] } := by kernel_rfl
@[simp] theorem ti_145 : tinfo Tryz.prog 145 = { ok := true, agg := false, cells := 1, bytes := 8, kind := .map 9 4, zok := true, zero := [.lit (.map none)] } := by kernel_rfl
@[simp] theorem ti_146 : tinfo Tryz.prog 146 = { ok := true, agg := false, cells := 1, bytes := 8, kind := .map 147 4, zok := true, zero := [.lit (.map none)] } := by kernel_rfl
@[simp] theorem ti_147 : tinfo Tryz.prog 147 = { ok := true, agg := true, cells := 2, bytes := 32, kind := .array 2 9, zok := true, zero := [.str [], .str []] } := by kernel_rfl
@[simp] theorem fl_147 : flat Tryz.prog 50 147 = some [.str, .str] := by kernel_rfl
@[simp] theorem eg_147 : Tryz.prog.eqGuardType Tryz.prog.depth 147 = false := by kernel_rfl
@[simp] theorem ti_148 : tinfo Tryz.prog 148 = { ok := true, agg := false, cells := 1, bytes := 8, kind := .func, zok := true, zero := [.lit .nilFunc] } := by kernel_rfl
@[simp] theorem ti_149 : tinfo Tryz.prog 149 = { ok := true, agg := false, cells := 1, bytes := 8, kind := .func, zok := true, zero := [.lit .nilFunc] } := by kernel_rfl
@[simp] theorem ti_150 : tinfo Tryz.prog 150 = { ok := true, agg := false, cells := 1, bytes := 8, kind := .int .u64, zok := true, zero := [.int .u64 0] } := by kernel_rfl
@[simp] theorem fl_150 : flat Tryz.prog 50 150 = some [.int] := by kernel_rfl
@[simp] theorem ti_151 : tinfo Tryz.prog 151 = { ok := true, agg := false, cells := 1, bytes := 16, kind := .iface, zok := true, zero := [.lit .nilIface] } := by kernel_rfl
@[simp] theorem ti_152 : tinfo Tryz.prog 152 = { ok := true, agg := false, cells := 1, bytes := 16, kind := .iface, zok := true, zero := [.lit .nilIface] } := by kernel_rfl
@[simp] theorem ti_153 : tinfo Tryz.prog 153 = { ok := true, agg := false, cells := 1, bytes := 8, kind := .func, zok := true, zero := [.lit .nilFunc] } := by kernel_rfl
@[simp] theorem ti_154 : tinfo Tryz.prog 154 = { ok := true, agg := false, cells := 1, bytes := 8, kind := .func, zok := true, zero := [.lit .nilFunc] } := by kernel_rfl
@[simp] theorem ti_155 : tinfo Tryz.prog 155 = { ok := true, agg := false, cells := 1, bytes := 8, kind := .func, zok := true, zero := [.lit .nilFunc] } := by kernel_rfl
@[simp] theorem ti_156 : tinfo Tryz.prog 156 = { ok := true, agg := false, cells := 1, bytes := 8, kind := .func, zok := true, zero := [.lit .nilFunc] } := by kernel_rfl
@[simp] theorem ti_157 : tinfo Tryz.prog 157 = { ok := true, agg := false, cells := 1, bytes := 8, kind := .func, zok := true, zero := [.lit .nilFunc] } := by kernel_rfl
@[simp] theorem ti_158 : tinfo Tryz.prog 158 = { ok := true, agg := false, cells := 1, bytes := 8, kind := .func, zok := true, zero := [.lit .nilFunc] } := by kernel_rfl
@[simp] theorem ti_159 : tinfo Tryz.prog 159 = { ok := true, agg := false, cells := 1, bytes := 8, kind := .func, zok := true, zero := [.lit .nilFunc] } := by kernel_rfl
@[simp] theorem ti_160 : tinfo Tryz.prog 160 = { ok := true, agg := false, cells := 1, bytes := 8, kind := .func, zok := true, zero := [.lit .nilFunc] } := by kernel_rfl
@[simp] theorem ti_161 : tinfo Tryz.prog 161 = { ok := true, agg := false, cells := 1, bytes := 8, kind := .func, zok := true, zero := [.lit .nilFunc] } := by kernel_rfl
@[simp] theorem ti_162 : tinfo Tryz.prog 162 = { ok := true, agg := false, cells := 1, bytes := 8, kind := .func, zok := true, zero := [.lit .nilFunc] } := by kernel_rfl
@[simp] theorem ti_163 : tinfo Tryz.prog 163 = { ok := true, agg := false, cells := 1, bytes := 8, kind := .func, zok := true, zero := [.lit .nilFunc] } := by kernel_rfl
@[simp] theorem ti_164 : tinfo Tryz.prog 164 = { ok := true, agg := false, cells := 1, bytes := 8, kind := .func, zok := true, zero := [.lit .nilFunc] } := by kernel_rfl
@[simp] theorem ti_165 : tinfo Tryz.prog 165 = { ok := true, agg := false, cells := 1, bytes := 8, kind := .func, zok := true, zero := [.lit .nilFunc] } := by kernel_rfl
@[simp] theorem ti_166 : tinfo Tryz.prog 166 = { ok := true, agg := false, cells := 1, bytes := 8, kind := .func, zok := true, zero := [.lit .nilFunc] } := by kernel_rfl
@[simp] theorem ti_167 : tinfo Tryz.prog 167 = { ok := true, agg := true, cells := 2, bytes := 16, kind := .struct [(0, 1, 3), (1, 1, 3)], zok := true, zero := [.int .i64 0, .int .i64 0] } := by kernel_rfl
@[simp] theorem fl_167 : flat Tryz.prog 50 167 = some [.int, .int] := by kernel_rfl
@[simp] theorem eg_167 : Tryz.prog.eqGuardType Tryz.prog.depth 167 = false := by kernel_rfl
@[simp] theorem ti_168 : tinfo Tryz.prog 168 = { ok := true, agg := true, cells := 2, bytes := 16, kind := .struct [(0, 1, 3), (1, 1, 3)], zok := true, zero := [.int .i64 0, .int .i64 0] } := by kernel_rfl
@[simp] theorem fl_168 : flat Tryz.prog 50 168 = some [.int, .int] := by kernel_rfl
@[simp] theorem eg_168 : Tryz.prog.eqGuardType Tryz.prog.depth 168 = false := by kernel_rfl
@[simp] theorem ti_169 : tinfo Tryz.prog 169 = { ok := true, agg := false, cells := 1, bytes := 8, kind := .func, zok := true, zero := [.lit .nilFunc] } := by kernel_rfl
@[simp] theorem ti_170 : tinfo Tryz.prog 170 = { ok := true, agg := false, cells := 1, bytes := 8, kind := .func, zok := true, zero := [.lit .nilFunc] } := by kernel_rfl
@[simp] theorem ti_171 : tinfo Tryz.prog 171 = { ok := true, agg := false, cells := 1, bytes := 24, kind := .slice 64, zok := true, zero := [.nil] } := by kernel_rfl
@[simp] theorem ti_172 : tinfo Tryz.prog 172 = { ok := true, agg := false, cells := 1, bytes := 8, kind := .func, zok := true, zero := [.lit .nilFunc] } := by kernel_rfl
@[simp] theorem ti_173 : tinfo Tryz.prog 173 = { ok := true, agg := false, cells := 1, bytes := 8, kind := .func, zok := true, zero := [.lit .nilFunc] } := by kernel_rfl
@[simp] theorem ti_174 : tinfo Tryz.prog 174 = { ok := true, agg := false, cells := 1, bytes := 8, kind := .func, zok := true, zero := [.lit .nilFunc] } := by kernel_rfl
@[simp] theorem ti_175 : tinfo Tryz.prog 175 = { ok := true, agg := false, cells := 1, bytes := 8, kind := .func, zok := true, zero := [.lit .nilFunc] } := by kernel_rfl
@[simp] theorem ti_176 : tinfo Tryz.prog 176 = { ok := true, agg := false, cells := 1, bytes := 8, kind := .int .i64, zok := true, zero := [.int .i64 0] } := by kernel_rfl
@[simp] theorem fl_176 : flat Tryz.prog 50 176 = some [.int] := by kernel_rfl
@[simp] theorem ti_178 : tinfo Tryz.prog 178 = { ok := true, agg := false, cells := 1, bytes := 8, kind := .func, zok := true, zero := [.lit .nilFunc] } := by kernel_rfl
@[simp] theorem ti_179 : tinfo Tryz.prog 179 = { ok := true, agg := false, cells := 1, bytes := 8, kind := .func, zok := true, zero := [.lit .nilFunc] } := by kernel_rfl
@[simp] theorem ti_180 : tinfo Tryz.prog 180 = { ok := true, agg := false, cells := 1, bytes := 8, kind := .func, zok := true, zero := [.lit .nilFunc] } := by kernel_rfl
@[simp] theorem ti_181 : tinfo Tryz.prog 181 = { ok := true, agg := false, cells := 1, bytes := 8, kind := .func, zok := true, zero := [.lit .nilFunc] } := by kernel_rfl
@[simp] theorem ti_182 : tinfo Tryz.prog 182 = { ok := true, agg := false, cells := 1, bytes := 8, kind := .func, zok := true, zero := [.lit .nilFunc] } := by kernel_rfl
@[simp] theorem ti_183 : tinfo Tryz.prog 183 = { ok := true, agg := false, cells := 1, bytes := 8, kind := .func, zok := true, zero := [.lit .nilFunc] } := by kernel_rfl
@[simp] theorem ti_184 : tinfo Tryz.prog 184 = { ok := true, agg := false, cells := 1, bytes := 4, kind := .int .u32, zok := true, zero := [.int .u32 0] } := by kernel_rfl
@[simp] theorem fl_184 : flat Tryz.prog 50 184 = some [.int] := by kernel_rfl
@[simp] theorem ti_185 : tinfo Tryz.prog 185 = { ok := true, agg := false, cells := 1, bytes := 8, kind := .func, zok := true, zero := [.lit .nilFunc] } := by kernel_rfl
@[simp] theorem ti_186 : tinfo Tryz.prog 186 = { ok := true, agg := false, cells := 1, bytes := 8, kind := .func, zok := true, zero := [.lit .nilFunc] } := by kernel_rfl
@[simp] theorem ti_187 : tinfo Tryz.prog 187 = { ok := true, agg := false, cells := 1, bytes := 8, kind := .func, zok := true, zero := [.lit .nilFunc] } := by kernel_rfl
@[simp] theorem ti_188 : tinfo Tryz.prog 188 = { ok := true, agg := false, cells := 1, bytes := 8, kind := .func, zok := true, zero := [.lit .nilFunc] } := by kernel_rfl
@[simp] theorem ti_189 : tinfo Tryz.prog 189 = { ok := true, agg := false, cells := 1, bytes := 8, kind := .func, zok := true, zero := [.lit .nilFunc] } := by kernel_rfl
@[simp] theorem ti_190 : tinfo Tryz.prog 190 = { ok := true, agg := false, cells := 1, bytes := 8, kind := .func, zok := true, zero := [.lit .nilFunc] } := by kernel_rfl
@[simp] theorem ti_191 : tinfo Tryz.prog 191 = { ok := true, agg := false, cells := 1, bytes := 8, kind := .func, zok := true, zero := [.lit .nilFunc] } := by kernel_rfl
@[simp] theorem ti_192 : tinfo Tryz.prog 192 = { ok := true, agg := false, cells := 1, bytes := 8, kind := .func, zok := true, zero := [.lit .nilFunc] } := by kernel_rfl
@[simp] theorem ti_193 : tinfo Tryz.prog 193 = { ok := true, agg := false, cells := 1, bytes := 8, kind := .func, zok := true, zero := [.lit .nilFunc] } := by kernel_rfl
@[simp] theorem ti_194 : tinfo Tryz.prog 194 = { ok := true, agg := false, cells := 1, bytes := 8, kind := .int .u64, zok := true, zero := [.int .u64 0] } := by kernel_rfl
@[simp] theorem fl_194 : flat Tryz.prog 50 194 = some [.int] := by kernel_rfl
@[simp] theorem ti_195 : tinfo Tryz.prog 195 = { ok := true, agg := false, cells := 1, bytes := 8, kind := .func, zok := true, zero := [.lit .nilFunc] } := by kernel_rfl
@[simp] theorem ti_196 : tinfo Tryz.prog 196 = { ok := true, agg := false, cells := 1, bytes := 8, kind := .func, zok := true, zero := [.lit .nilFunc] } := by kernel_rfl
@[simp] theorem ti_197 : tinfo Tryz.prog 197 = { ok := true, agg := false, cells := 1, bytes := 8, kind := .func, zok := true, zero := [.lit .nilFunc] } := by kernel_rfl
@[simp] theorem ti_198 : tinfo Tryz.prog 198 = { ok := true, agg := false, cells := 1, bytes := 8, kind := .pointer 3, zok := true, zero := [.lit (.pointer none)] } := by kernel_rfl
@[simp] theorem ti_199 : tinfo Tryz.prog 199 = { ok := true, agg := false, cells := 1, bytes := 8, kind := .func, zok := true, zero := [.lit .nilFunc] } := by kernel_rfl
@[simp] theorem ti_200 : tinfo Tryz.prog 200 = { ok := true, agg := false, cells := 1, bytes := 8, kind := .func, zok := true, zero := [.lit .nilFunc] } := by kernel_rfl
@[simp] theorem ti_201 : tinfo Tryz.prog 201 = { ok := true, agg := false, cells := 1, bytes := 8, kind := .func, zok := true, zero := [.lit .nilFunc] } := by kernel_rfl
@[simp] theorem ti_202 : tinfo Tryz.prog 202 = { ok := true, agg := false, cells := 1, bytes := 8, kind := .func, zok := true, zero := [.lit .nilFunc] } := by kernel_rfl
@[simp] theorem ti_203 : tinfo Tryz.prog 203 = { ok := true, agg := false, cells := 1, bytes := 8, kind := .func, zok := true, zero := [.lit .nilFunc] } := by kernel_rfl
@[simp] theorem ti_204 : tinfo Tryz.prog 204 = { ok := true, agg := false, cells := 1, bytes := 8, kind := .func, zok := true, zero := [.lit .nilFunc] } := by kernel_rfl
@[simp] theorem ti_205 : tinfo Tryz.prog 205 = { ok := true, agg := false, cells := 1, bytes := 8, kind := .func, zok := true, zero := [.lit .nilFunc] } := by kernel_rfl
@[simp] theorem ti_206 : tinfo Tryz.prog 206 = { ok := true, agg := false, cells := 1, bytes := 8, kind := .func, zok := true, zero := [.lit .nilFunc] } := by kernel_rfl
@[simp] theorem ti_207 : tinfo Tryz.prog 207 = { ok := true, agg := false, cells := 1, bytes := 8, kind := .pointer 194, zok := true, zero := [.lit (.pointer none)] } := by kernel_rfl
@[simp] theorem ti_209 : tinfo Tryz.prog 209 = { ok := true, agg := false, cells := 1, bytes := 8, kind := .func, zok := true, zero := [.lit .nilFunc] } := by kernel_rfl
@[simp] theorem ti_210 : tinfo Tryz.prog 210 = { ok := true, agg := false, cells := 1, bytes := 8, kind := .func, zok := true, zero := [.lit .nilFunc] } := by kernel_rfl
@[simp] theorem ti_211 : tinfo Tryz.prog 211 = { ok := true, agg := false, cells := 1, bytes := 8, kind := .func, zok := true, zero := [.lit .nilFunc] } := by kernel_rfl
@[simp] theorem ti_212 : tinfo Tryz.prog 212 = { ok := true, agg := false, cells := 1, bytes := 8, kind := .func, zok := true, zero := [.lit .nilFunc] } := by kernel_rfl
@[simp] theorem ti_213 : tinfo Tryz.prog 213 = { ok := true, agg := false, cells := 1, bytes := 8, kind := .func, zok := true, zero := [.lit .nilFunc] } := by kernel_rfl
@[simp] theorem ti_214 : tinfo Tryz.prog 214 = { ok := true, agg := false, cells := 1, bytes := 8, kind := .pointer 233, zok := true, zero := [.lit (.pointer none)] } := by kernel_rfl
@[simp] theorem ti_215 : tinfo Tryz.prog 215 = { ok := true, agg := false, cells := 1, bytes := 8, kind := .func, zok := true, zero := [.lit .nilFunc] } := by kernel_rfl
@[simp] theorem ti_216 : tinfo Tryz.prog 216 = { ok := true, agg := true, cells := 4, bytes := 40, kind := .struct [(0, 1, 17), (1, 1, 17), (2, 1, 17), (3, 1, 9)], zok := true, zero := [.lit (.pointer none), .lit (.pointer none), .lit (.pointer none), .str []] } := by kernel_rfl
@[simp] theorem ti_217 : tinfo Tryz.prog 217 = { ok := true, agg := true, cells := 4, bytes := 40, kind := .struct [(0, 1, 17), (1, 1, 17), (2, 1, 17), (3, 1, 9)], zok := true, zero := [.lit (.pointer none), .lit (.pointer none), .lit (.pointer none), .str []] } := by kernel_rfl
@[simp] theorem ti_218 : tinfo Tryz.prog 218 = { ok := true, agg := true, cells := 0, bytes := 0, kind := .array 0 16, zok := true, zero := [] } := by kernel_rfl
@[simp] theorem ti_219 : tinfo Tryz.prog 219 = { ok := true, agg := true, cells := 0, bytes := 0, kind := .struct [(0, 0, 218)], zok := true, zero := [] } := by kernel_rfl
@[simp] theorem ti_220 : tinfo Tryz.prog 220 = { ok := true, agg := true, cells := 0, bytes := 0, kind := .struct [(0, 0, 218)], zok := true, zero := [] } := by kernel_rfl
@[simp] theorem ti_221 : tinfo Tryz.prog 221 = { ok := true, agg := false, cells := 1, bytes := 8, kind := .func, zok := true, zero := [.lit .nilFunc] } := by kernel_rfl
@[simp] theorem ti_222 : tinfo Tryz.prog 222 = { ok := true, agg := false, cells := 1, bytes := 1, kind := .int .u8, zok := true, zero := [.int .u8 0] } := by kernel_rfl
@[simp] theorem fl_222 : flat Tryz.prog 50 222 = some [.int] := by kernel_rfl
@[simp] theorem ti_223 : tinfo Tryz.prog 223 = { ok := true, agg := false, cells := 1, bytes := 1, kind := .int .u8, zok := true, zero := [.int .u8 0] } := by kernel_rfl
@[simp] theorem fl_223 : flat Tryz.prog 50 223 = some [.int] := by kernel_rfl
@[simp] theorem ti_224 : tinfo Tryz.prog 224 = { ok := true, agg := false, cells := 1, bytes := 8, kind := .func, zok := true, zero := [.lit .nilFunc] } := by kernel_rfl
@[simp] theorem ti_225 : tinfo Tryz.prog 225 = { ok := true, agg := false, cells := 1, bytes := 8, kind := .pointer 5, zok := true, zero := [.lit (.pointer none)] } := by kernel_rfl
@[simp] theorem ti_226 : tinfo Tryz.prog 226 = { ok := true, agg := false, cells := 1, bytes := 4, kind := .int .i32, zok := true, zero := [.int .i32 0] } := by kernel_rfl
@[simp] theorem fl_226 : flat Tryz.prog 50 226 = some [.int] := by kernel_rfl
@[simp] theorem ti_227 : tinfo Tryz.prog 227 = { ok := true, agg := false, cells := 1, bytes := 4, kind := .int .i32, zok := true, zero := [.int .i32 0] } := by kernel_rfl
@[simp] theorem fl_227 : flat Tryz.prog 50 227 = some [.int] := by kernel_rfl
@[simp] theorem ti_228 : tinfo Tryz.prog 228 = { ok := true, agg := true, cells := 11, bytes := 48, kind := .struct [(0, 1, 12), (1, 1, 12), (2, 1, 184), (3, 1, 222), (4, 1, 5), (5, 1, 5), (6, 1, 223), (7, 1, 224), (8, 1, 225), (9, 1, 226), (10, 1, 227)], zok := true, zero := [.int .u64 0, .int .u64 0, .int .u32 0, .int .u8 0, .int .u8 0, .int .u8 0, .int .u8 0, .lit .nilFunc, .lit (.pointer none), .int .i32 0, .int .i32 0] } := by kernel_rfl
@[simp] theorem ti_229 : tinfo Tryz.prog 229 = { ok := true, agg := true, cells := 11, bytes := 48, kind := .struct [(0, 1, 12), (1, 1, 12), (2, 1, 184), (3, 1, 222), (4, 1, 5), (5, 1, 5), (6, 1, 223), (7, 1, 224), (8, 1, 225), (9, 1, 226), (10, 1, 227)], zok := true, zero := [.int .u64 0, .int .u64 0, .int .u32 0, .int .u8 0, .int .u8 0, .int .u8 0, .int .u8 0, .lit .nilFunc, .lit (.pointer none), .int .i32 0, .int .i32 0] } := by kernel_rfl
@[simp] theorem ti_230 : tinfo Tryz.prog 230 = { ok := true, agg := true, cells := 2, bytes := 24, kind := .struct [(0, 1, 9), (1, 1, 3)], zok := true, zero := [.str [], .int .i64 0] } := by kernel_rfl
@[simp] theorem fl_230 : flat Tryz.prog 50 230 = some [.str, .int] := by kernel_rfl
@[simp] theorem eg_230 : Tryz.prog.eqGuardType Tryz.prog.depth 230 = false := by kernel_rfl
@[simp] theorem ti_231 : tinfo Tryz.prog 231 = { ok := true, agg := true, cells := 2, bytes := 24, kind := .struct [(0, 1, 9), (1, 1, 3)], zok := true, zero := [.str [], .int .i64 0] } := by kernel_rfl
@[simp] theorem fl_231 : flat Tryz.prog 50 231 = some [.str, .int] := by kernel_rfl
@[simp] theorem eg_231 : Tryz.prog.eqGuardType Tryz.prog.depth 231 = false := by kernel_rfl
@[simp] theorem ti_232 : tinfo Tryz.prog 232 = { ok := true, agg := true, cells := 1, bytes := 16, kind := .struct [(0, 1, 9)], zok := true, zero := [.str []] } := by kernel_rfl
@[simp] theorem fl_232 : flat Tryz.prog 50 232 = some [.str] := by kernel_rfl
@[simp] theorem eg_232 : Tryz.prog.eqGuardType Tryz.prog.depth 232 = false := by kernel_rfl
@[simp] theorem ti_233 : tinfo Tryz.prog 233 = { ok := true, agg := true, cells := 1, bytes := 16, kind := .struct [(0, 1, 9)], zok := true, zero := [.str []] } := by kernel_rfl
@[simp] theorem fl_233 : flat Tryz.prog 50 233 = some [.str] := by kernel_rfl
@[simp] theorem eg_233 : Tryz.prog.eqGuardType Tryz.prog.depth 233 = false := by kernel_rfl
theorem mixed : Tryz.prog.follows .mixedOrders = true := by kernel_rfl
end Go.Proofs.YtiidghfioofpkaaGreat
