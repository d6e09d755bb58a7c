/-
  What each type of the translation is, for the abstract logic. Written by a program of ours.
-/
import Derived.Test.YtillfoacekifbaaDoorProg
import Derived.Test.YtillfoacekifbaaDoorAbsWp
set_option maxRecDepth 100000
namespace Go.Proofs.YtillfoacekifbaaDoor
open Go Go.Abs
@[simp] theorem ti_1 : tinfo Tryd.prog 1 = { ok := true, agg := false, cells := 1, bytes := 8, kind := .func, zok := true, zero := [.lit .nilFunc] } := by kernel_rfl
@[simp] theorem ti_2 : tinfo Tryd.prog 2 = { ok := true, agg := false, cells := 1, bytes := 8, kind := .int .i64, zok := true, zero := [.int .i64 0] } := by kernel_rfl
@[simp] theorem fl_2 : flat Tryd.prog 50 2 = some [.int] := by kernel_rfl
@[simp] theorem ti_3 : tinfo Tryd.prog 3 = { ok := true, agg := false, cells := 1, bytes := 8, kind := .int .i64, zok := true, zero := [.int .i64 0] } := by kernel_rfl
@[simp] theorem fl_3 : flat Tryd.prog 50 3 = some [.int] := by kernel_rfl
@[simp] theorem ti_4 : tinfo Tryd.prog 4 = { ok := true, agg := false, cells := 1, bytes := 1, kind := .bool, zok := true, zero := [.bool false] } := by kernel_rfl
@[simp] theorem fl_4 : flat Tryd.prog 50 4 = some [.bool] := by kernel_rfl
@[simp] theorem ti_5 : tinfo Tryd.prog 5 = { ok := true, agg := false, cells := 1, bytes := 1, kind := .int .u8, zok := true, zero := [.int .u8 0] } := by kernel_rfl
@[simp] theorem fl_5 : flat Tryd.prog 50 5 = some [.int] := by kernel_rfl
@[simp] theorem ti_6 : tinfo Tryd.prog 6 = { ok := true, agg := false, cells := 1, bytes := 1, kind := .int .u8, zok := true, zero := [.int .u8 0] } := by kernel_rfl
@[simp] theorem fl_6 : flat Tryd.prog 50 6 = some [.int] := by kernel_rfl
@[simp] theorem ti_7 : tinfo Tryd.prog 7 = { ok := true, agg := true, cells := 4, bytes := 24, kind := .struct [(0, 1, 2), (1, 1, 3), (2, 1, 4), (3, 1, 6)], zok := true, zero := [.int .i64 0, .int .i64 0, .bool false, .int .u8 0] } := by kernel_rfl
@[simp] theorem ti_8 : tinfo Tryd.prog 8 = { ok := true, agg := true, cells := 4, bytes := 24, kind := .struct [(0, 1, 2), (1, 1, 3), (2, 1, 4), (3, 1, 6)], zok := true, zero := [.int .i64 0, .int .i64 0, .bool false, .int .u8 0] } := by kernel_rfl
@[simp] theorem ti_9 : tinfo Tryd.prog 9 = { ok := true, agg := false, cells := 1, bytes := 16, kind := .string, zok := true, zero := [.str []] } := by kernel_rfl
@[simp] theorem fl_9 : flat Tryd.prog 50 9 = some [.str] := by kernel_rfl
@[simp] theorem ti_10 : tinfo Tryd.prog 10 = { ok := true, agg := false, cells := 1, bytes := 16, kind := .string, zok := true, zero := [.str []] } := by kernel_rfl
@[simp] theorem fl_10 : flat Tryd.prog 50 10 = some [.str] := by kernel_rfl
@[simp] theorem ti_11 : tinfo Tryd.prog 11 = { ok := true, agg := false, cells := 1, bytes := 16, kind := .string, zok := true, zero := [.str []] } := by kernel_rfl
@[simp] theorem fl_11 : flat Tryd.prog 50 11 = some [.str] := by kernel_rfl
@[simp] theorem ti_12 : tinfo Tryd.prog 12 = { ok := true, agg := false, cells := 1, bytes := 8, kind := .int .u64, zok := true, zero := [.int .u64 0] } := by kernel_rfl
@[simp] theorem fl_12 : flat Tryd.prog 50 12 = some [.int] := by kernel_rfl
@[simp] theorem ti_13 : tinfo Tryd.prog 13 = { ok := true, agg := true, cells := 2, bytes := 24, kind := .struct [(0, 1, 9), (1, 1, 12)], zok := true, zero := [.str [], .int .u64 0] } := by kernel_rfl
@[simp] theorem ti_14 : tinfo Tryd.prog 14 = { ok := true, agg := true, cells := 2, bytes := 24, kind := .struct [(0, 1, 9), (1, 1, 12)], zok := true, zero := [.str [], .int .u64 0] } := by kernel_rfl
@[simp] theorem ti_15 : tinfo Tryd.prog 15 = { ok := true, agg := false, cells := 1, bytes := 8, kind := .pointer 76, zok := true, zero := [.lit (.pointer none)] } := by kernel_rfl
@[simp] theorem ti_16 : tinfo Tryd.prog 16 = { ok := true, agg := false, cells := 1, bytes := 8, kind := .pointer 79, zok := true, zero := [.lit (.pointer none)] } := by kernel_rfl
@[simp] theorem ti_17 : tinfo Tryd.prog 17 = { ok := true, agg := false, cells := 1, bytes := 8, kind := .pointer 89, zok := true, zero := [.lit (.pointer none)] } := by kernel_rfl
@[simp] theorem ti_18 : tinfo Tryd.prog 18 = { ok := true, agg := true, cells := 1, bytes := 8, kind := .struct [(0, 1, 17)], zok := true, zero := [.lit (.pointer none)] } := by kernel_rfl
@[simp] theorem ti_19 : tinfo Tryd.prog 19 = { ok := true, agg := true, cells := 1, bytes := 8, kind := .struct [(0, 1, 17)], zok := true, zero := [.lit (.pointer none)] } := by kernel_rfl
@[simp] theorem ti_20 : tinfo Tryd.prog 20 = { ok := true, agg := false, cells := 1, bytes := 16, kind := .iface, zok := true, zero := [.lit .nilIface] } := by kernel_rfl
@[simp] theorem ti_21 : tinfo Tryd.prog 21 = { ok := true, agg := false, cells := 1, bytes := 4, kind := .int .i32, zok := true, zero := [.int .i32 0] } := by kernel_rfl
@[simp] theorem fl_21 : flat Tryd.prog 50 21 = some [.int] := by kernel_rfl
@[simp] theorem ti_22 : tinfo Tryd.prog 22 = { ok := true, agg := true, cells := 4, bytes := 48, kind := .struct [(0, 1, 9), (1, 1, 9), (2, 1, 3), (3, 1, 3)], zok := true, zero := [.str [], .str [], .int .i64 0, .int .i64 0] } := by kernel_rfl
@[simp] theorem fl_22 : flat Tryd.prog 50 22 = some [.str, .str, .int, .int] := by kernel_rfl
@[simp] theorem eg_22 : Tryd.prog.eqGuardType Tryd.prog.depth 22 = false := by kernel_rfl
@[simp] theorem ti_23 : tinfo Tryd.prog 23 = { ok := true, agg := true, cells := 4, bytes := 48, kind := .struct [(0, 1, 9), (1, 1, 9), (2, 1, 3), (3, 1, 3)], zok := true, zero := [.str [], .str [], .int .i64 0, .int .i64 0] } := by kernel_rfl
@[simp] theorem fl_23 : flat Tryd.prog 50 23 = some [.str, .str, .int, .int] := by kernel_rfl
@[simp] theorem eg_23 : Tryd.prog.eqGuardType Tryd.prog.depth 23 = false := by kernel_rfl
@[simp] theorem ti_24 : tinfo Tryd.prog 24 = { ok := true, agg := false, cells := 1, bytes := 24, kind := .slice 91, zok := true, zero := [.nil] } := by kernel_rfl
@[simp] theorem ti_25 : tinfo Tryd.prog 25 = { ok := true, agg := true, cells := 7, bytes := 96, kind := .struct [(0, 1, 9), (1, 1, 9), (2, 1, 9), (3, 1, 3), (4, 1, 3), (5, 1, 24), (6, 1, 3)], zok := true, zero := [.str [], .str [], .str [], .int .i64 0, .int .i64 0, .nil, .int .i64 0] } := by kernel_rfl
@[simp] theorem ti_26 : tinfo Tryd.prog 26 = { ok := true, agg := true, cells := 7, bytes := 96, kind := .struct [(0, 1, 9), (1, 1, 9), (2, 1, 9), (3, 1, 3), (4, 1, 3), (5, 1, 24), (6, 1, 3)], zok := true, zero := [.str [], .str [], .str [], .int .i64 0, .int .i64 0, .nil, .int .i64 0] } := by kernel_rfl
@[simp] theorem ti_27 : tinfo Tryd.prog 27 = { ok := true, agg := false, cells := 1, bytes := 8, kind := .int .i64, zok := true, zero := [.int .i64 0] } := by kernel_rfl
@[simp] theorem fl_27 : flat Tryd.prog 50 27 = some [.int] := by kernel_rfl
@[simp] theorem ti_28 : tinfo Tryd.prog 28 = { ok := true, agg := false, cells := 1, bytes := 8, kind := .func, zok := true, zero := [.lit .nilFunc] } := by kernel_rfl
@[simp] theorem ti_29 : tinfo Tryd.prog 29 = { ok := true, agg := false, cells := 1, bytes := 8, kind := .func, zok := true, zero := [.lit .nilFunc] } := by kernel_rfl
@[simp] theorem ti_30 : tinfo Tryd.prog 30 = { ok := true, agg := false, cells := 1, bytes := 8, kind := .func, zok := true, zero := [.lit .nilFunc] } := by kernel_rfl
@[simp] theorem ti_31 : tinfo Tryd.prog 31 = { ok := true, agg := false, cells := 1, bytes := 8, kind := .func, zok := true, zero := [.lit .nilFunc] } := by kernel_rfl
@[simp] theorem ti_32 : tinfo Tryd.prog 32 = { ok := true, agg := false, cells := 1, bytes := 8, kind := .func, zok := true, zero := [.lit .nilFunc] } := by kernel_rfl
@[simp] theorem ti_33 : tinfo Tryd.prog 33 = { ok := true, agg := false, cells := 1, bytes := 8, kind := .func, zok := true, zero := [.lit .nilFunc] } := by kernel_rfl
@[simp] theorem ti_34 : tinfo Tryd.prog 34 = { ok := true, agg := false, cells := 1, bytes := 24, kind := .slice 26, zok := true, zero := [.nil] } := by kernel_rfl
@[simp] theorem ti_35 : tinfo Tryd.prog 35 = { ok := true, agg := false, cells := 1, bytes := 8, kind := .func, zok := true, zero := [.lit .nilFunc] } := by kernel_rfl
@[simp] theorem ti_36 : tinfo Tryd.prog 36 = { ok := true, agg := false, cells := 1, bytes := 8, kind := .func, zok := true, zero := [.lit .nilFunc] } := by kernel_rfl
@[simp] theorem ti_37 : tinfo Tryd.prog 37 = { ok := true, agg := false, cells := 1, bytes := 8, kind := .func, zok := true, zero := [.lit .nilFunc] } := by kernel_rfl
@[simp] theorem ti_38 : tinfo Tryd.prog 38 = { ok := true, agg := false, cells := 1, bytes := 24, kind := .slice 23, zok := true, zero := [.nil] } := by kernel_rfl
@[simp] theorem ti_39 : tinfo Tryd.prog 39 = { ok := true, agg := false, cells := 1, bytes := 24, kind := .slice 3, zok := true, zero := [.nil] } := by kernel_rfl
@[simp] theorem ti_41 : tinfo Tryd.prog 41 = { ok := true, agg := false, cells := 1, bytes := 8, kind := .func, zok := true, zero := [.lit .nilFunc] } := by kernel_rfl
@[simp] theorem ti_43 : tinfo Tryd.prog 43 = { ok := true, agg := false, cells := 1, bytes := 8, kind := .func, zok := true, zero := [.lit .nilFunc] } := by kernel_rfl
@[simp] theorem ti_44 : tinfo Tryd.prog 44 = { ok := true, agg := false, cells := 1, bytes := 8, kind := .func, zok := true, zero := [.lit .nilFunc] } := by kernel_rfl
@[simp] theorem ti_45 : tinfo Tryd.prog 45 = { ok := true, agg := false, cells := 1, bytes := 8, kind := .func, zok := true, zero := [.lit .nilFunc] } := by kernel_rfl
@[simp] theorem ti_46 : tinfo Tryd.prog 46 = { ok := true, agg := false, cells := 1, bytes := 8, kind := .func, zok := true, zero := [.lit .nilFunc] } := by kernel_rfl
@[simp] theorem ti_47 : tinfo Tryd.prog 47 = { ok := true, agg := false, cells := 1, bytes := 8, kind := .func, zok := true, zero := [.lit .nilFunc] } := by kernel_rfl
@[simp] theorem ti_48 : tinfo Tryd.prog 48 = { ok := true, agg := false, cells := 1, bytes := 8, kind := .func, zok := true, zero := [.lit .nilFunc] } := by kernel_rfl
@[simp] theorem ti_49 : tinfo Tryd.prog 49 = { ok := true, agg := false, cells := 1, bytes := 8, kind := .func, zok := true, zero := [.lit .nilFunc] } := by kernel_rfl
@[simp] theorem ti_50 : tinfo Tryd.prog 50 = { ok := true, agg := false, cells := 1, bytes := 8, kind := .func, zok := true, zero := [.lit .nilFunc] } := by kernel_rfl
@[simp] theorem ti_51 : tinfo Tryd.prog 51 = { ok := true, agg := false, cells := 1, bytes := 8, kind := .func, zok := true, zero := [.lit .nilFunc] } := by kernel_rfl
@[simp] theorem ti_52 : tinfo Tryd.prog 52 = { ok := true, agg := false, cells := 1, bytes := 8, kind := .func, zok := true, zero := [.lit .nilFunc] } := by kernel_rfl
@[simp] theorem ti_54 : tinfo Tryd.prog 54 = { ok := true, agg := false, cells := 1, bytes := 8, kind := .func, zok := true, zero := [.lit .nilFunc] } := by kernel_rfl
@[simp] theorem ti_55 : tinfo Tryd.prog 55 = { ok := true, agg := false, cells := 1, bytes := 8, kind := .func, zok := true, zero := [.lit .nilFunc] } := by kernel_rfl
@[simp] theorem ti_56 : tinfo Tryd.prog 56 = { ok := true, agg := false, cells := 1, bytes := 8, kind := .func, zok := true, zero := [.lit .nilFunc] } := by kernel_rfl
@[simp] theorem ti_57 : tinfo Tryd.prog 57 = { ok := true, agg := false, cells := 1, bytes := 8, kind := .func, zok := true, zero := [.lit .nilFunc] } := by kernel_rfl
@[simp] theorem ti_58 : tinfo Tryd.prog 58 = { ok := true, agg := false, cells := 1, bytes := 8, kind := .func, zok := true, zero := [.lit .nilFunc] } := by kernel_rfl
@[simp] theorem ti_59 : tinfo Tryd.prog 59 = { ok := true, agg := false, cells := 1, bytes := 8, kind := .map 63 3, zok := true, zero := [.lit (.map none)] } := by kernel_rfl
@[simp] theorem ti_60 : tinfo Tryd.prog 60 = { ok := true, agg := true, cells := 1, bytes := 8, kind := .struct [(0, 1, 59)], zok := true, zero := [.lit (.map none)] } := by kernel_rfl
@[simp] theorem ti_61 : tinfo Tryd.prog 61 = { ok := true, agg := true, cells := 1, bytes := 8, kind := .struct [(0, 1, 59)], zok := true, zero := [.lit (.map none)] } := by kernel_rfl
@[simp] theorem ti_62 : tinfo Tryd.prog 62 = { ok := true, agg := true, cells := 2, bytes := 16, kind := .struct [(0, 1, 3), (1, 1, 3)], zok := true, zero := [.int .i64 0, .int .i64 0] } := by kernel_rfl
@[simp] theorem fl_62 : flat Tryd.prog 50 62 = some [.int, .int] := by kernel_rfl
@[simp] theorem eg_62 : Tryd.prog.eqGuardType Tryd.prog.depth 62 = false := by kernel_rfl
@[simp] theorem ti_63 : tinfo Tryd.prog 63 = { ok := true, agg := true, cells := 2, bytes := 16, kind := .struct [(0, 1, 3), (1, 1, 3)], zok := true, zero := [.int .i64 0, .int .i64 0] } := by kernel_rfl
@[simp] theorem fl_63 : flat Tryd.prog 50 63 = some [.int, .int] := by kernel_rfl
@[simp] theorem eg_63 : Tryd.prog.eqGuardType Tryd.prog.depth 63 = false := by kernel_rfl
@[simp] theorem ti_64 : tinfo Tryd.prog 64 = { ok := true, agg := false, cells := 1, bytes := 8, kind := .func, zok := true, zero := [.lit .nilFunc] } := by kernel_rfl
@[simp] theorem ti_65 : tinfo Tryd.prog 65 = { ok := true, agg := false, cells := 1, bytes := 8, kind := .func, zok := true, zero := [.lit .nilFunc] } := by kernel_rfl
@[simp] theorem ti_66 : tinfo Tryd.prog 66 = { ok := true, agg := false, cells := 1, bytes := 24, kind := .slice 4, zok := true, zero := [.nil] } := by kernel_rfl
@[simp] theorem ti_67 : tinfo Tryd.prog 67 = { ok := true, agg := false, cells := 1, bytes := 8, kind := .func, zok := true, zero := [.lit .nilFunc] } := by kernel_rfl
@[simp] theorem ti_68 : tinfo Tryd.prog 68 = { ok := true, agg := false, cells := 1, bytes := 8, kind := .func, zok := true, zero := [.lit .nilFunc] } := by kernel_rfl
@[simp] theorem ti_69 : tinfo Tryd.prog 69 = { ok := true, agg := false, cells := 1, bytes := 8, kind := .func, zok := true, zero := [.lit .nilFunc] } := by kernel_rfl
@[simp] theorem ti_70 : tinfo Tryd.prog 70 = { ok := true, agg := true, cells := 12, bytes := 96, kind := .array 12 3, zok := true, zero := [.int .i64 0, .int .i64 0, .int .i64 0, .int .i64 0, .int .i64 0, .int .i64 0, .int .i64 0, .int .i64 0, .int .i64 0, .int .i64 0, .int .i64 0, .int .i64 0] } := by kernel_rfl
@[simp] theorem fl_70 : flat Tryd.prog 50 70 = some [.int, .int, .int, .int, .int, .int, .int, .int, .int, .int, .int, .int] := by kernel_rfl
@[simp] theorem eg_70 : Tryd.prog.eqGuardType Tryd.prog.depth 70 = false := by kernel_rfl
@[simp] theorem ti_71 : tinfo Tryd.prog 71 = { ok := true, agg := false, cells := 1, bytes := 8, kind := .func, zok := true, zero := [.lit .nilFunc] } := by kernel_rfl
@[simp] theorem ti_72 : tinfo Tryd.prog 72 = { ok := true, agg := false, cells := 1, bytes := 8, kind := .func, zok := true, zero := [.lit .nilFunc] } := by kernel_rfl
@[simp] theorem ti_73 : tinfo Tryd.prog 73 = { ok := true, agg := false, cells := 1, bytes := 8, kind := .int .u64, zok := true, zero := [.int .u64 0] } := by kernel_rfl
@[simp] theorem fl_73 : flat Tryd.prog 50 73 = some [.int] := by kernel_rfl
@[simp] theorem ti_74 : tinfo Tryd.prog 74 = { ok := true, agg := false, cells := 1, bytes := 8, kind := .func, zok := true, zero := [.lit .nilFunc] } := by kernel_rfl
@[simp] theorem ti_75 : tinfo Tryd.prog 75 = { ok := true, agg := true, cells := 4, bytes := 40, kind := .struct [(0, 1, 17), (1, 1, 17), (2, 1, 17), (3, 1, 9)], zok := true, zero := [.lit (.pointer none), .lit (.pointer none), .lit (.pointer none), .str []] } := by kernel_rfl
@[simp] theorem ti_76 : tinfo Tryd.prog 76 = { ok := true, agg := true, cells := 4, bytes := 40, kind := .struct [(0, 1, 17), (1, 1, 17), (2, 1, 17), (3, 1, 9)], zok := true, zero := [.lit (.pointer none), .lit (.pointer none), .lit (.pointer none), .str []] } := by kernel_rfl
@[simp] theorem ti_77 : tinfo Tryd.prog 77 = { ok := true, agg := true, cells := 0, bytes := 0, kind := .array 0 16, zok := true, zero := [] } := by kernel_rfl
@[simp] theorem ti_78 : tinfo Tryd.prog 78 = { ok := true, agg := true, cells := 0, bytes := 0, kind := .struct [(0, 0, 77)], zok := true, zero := [] } := by kernel_rfl
@[simp] theorem ti_79 : tinfo Tryd.prog 79 = { ok := true, agg := true, cells := 0, bytes := 0, kind := .struct [(0, 0, 77)], zok := true, zero := [] } := by kernel_rfl
@[simp] theorem ti_80 : tinfo Tryd.prog 80 = { ok := true, agg := false, cells := 1, bytes := 8, kind := .func, zok := true, zero := [.lit .nilFunc] } := by kernel_rfl
@[simp] theorem ti_81 : tinfo Tryd.prog 81 = { ok := true, agg := false, cells := 1, bytes := 4, kind := .int .u32, zok := true, zero := [.int .u32 0] } := by kernel_rfl
@[simp] theorem fl_81 : flat Tryd.prog 50 81 = some [.int] := by kernel_rfl
@[simp] theorem ti_82 : tinfo Tryd.prog 82 = { ok := true, agg := false, cells := 1, bytes := 1, kind := .int .u8, zok := true, zero := [.int .u8 0] } := by kernel_rfl
@[simp] theorem fl_82 : flat Tryd.prog 50 82 = some [.int] := by kernel_rfl
@[simp] theorem ti_83 : tinfo Tryd.prog 83 = { ok := true, agg := false, cells := 1, bytes := 1, kind := .int .u8, zok := true, zero := [.int .u8 0] } := by kernel_rfl
@[simp] theorem fl_83 : flat Tryd.prog 50 83 = some [.int] := by kernel_rfl
@[simp] theorem ti_84 : tinfo Tryd.prog 84 = { ok := true, agg := false, cells := 1, bytes := 8, kind := .func, zok := true, zero := [.lit .nilFunc] } := by kernel_rfl
@[simp] theorem ti_85 : tinfo Tryd.prog 85 = { ok := true, agg := false, cells := 1, bytes := 8, kind := .pointer 5, zok := true, zero := [.lit (.pointer none)] } := by kernel_rfl
@[simp] theorem ti_86 : tinfo Tryd.prog 86 = { ok := true, agg := false, cells := 1, bytes := 4, kind := .int .i32, zok := true, zero := [.int .i32 0] } := by kernel_rfl
@[simp] theorem fl_86 : flat Tryd.prog 50 86 = some [.int] := by kernel_rfl
@[simp] theorem ti_87 : tinfo Tryd.prog 87 = { ok := true, agg := false, cells := 1, bytes := 4, kind := .int .i32, zok := true, zero := [.int .i32 0] } := by kernel_rfl
@[simp] theorem fl_87 : flat Tryd.prog 50 87 = some [.int] := by kernel_rfl
@[simp] theorem ti_88 : tinfo Tryd.prog 88 = { ok := true, agg := true, cells := 11, bytes := 48, kind := .struct [(0, 1, 12), (1, 1, 12), (2, 1, 81), (3, 1, 82), (4, 1, 5), (5, 1, 5), (6, 1, 83), (7, 1, 84), (8, 1, 85), (9, 1, 86), (10, 1, 87)], zok := true, zero := [.int .u64 0, .int .u64 0, .int .u32 0, .int .u8 0, .int .u8 0, .int .u8 0, .int .u8 0, .lit .nilFunc, .lit (.pointer none), .int .i32 0, .int .i32 0] } := by kernel_rfl
@[simp] theorem ti_89 : tinfo Tryd.prog 89 = { ok := true, agg := true, cells := 11, bytes := 48, kind := .struct [(0, 1, 12), (1, 1, 12), (2, 1, 81), (3, 1, 82), (4, 1, 5), (5, 1, 5), (6, 1, 83), (7, 1, 84), (8, 1, 85), (9, 1, 86), (10, 1, 87)], zok := true, zero := [.int .u64 0, .int .u64 0, .int .u32 0, .int .u8 0, .int .u8 0, .int .u8 0, .int .u8 0, .lit .nilFunc, .lit (.pointer none), .int .i32 0, .int .i32 0] } := by kernel_rfl
@[simp] theorem ti_90 : tinfo Tryd.prog 90 = { ok := true, agg := true, cells := 2, bytes := 24, kind := .struct [(0, 1, 9), (1, 1, 3)], zok := true, zero := [.str [], .int .i64 0] } := by kernel_rfl
@[simp] theorem fl_90 : flat Tryd.prog 50 90 = some [.str, .int] := by kernel_rfl
@[simp] theorem eg_90 : Tryd.prog.eqGuardType Tryd.prog.depth 90 = false := by kernel_rfl
@[simp] theorem ti_91 : tinfo Tryd.prog 91 = { ok := true, agg := true, cells := 2, bytes := 24, kind := .struct [(0, 1, 9), (1, 1, 3)], zok := true, zero := [.str [], .int .i64 0] } := by kernel_rfl
@[simp] theorem fl_91 : flat Tryd.prog 50 91 = some [.str, .int] := by kernel_rfl
@[simp] theorem eg_91 : Tryd.prog.eqGuardType Tryd.prog.depth 91 = false := by kernel_rfl
theorem mixed : Tryd.prog.follows .mixedOrders = true := by kernel_rfl
end Go.Proofs.YtillfoacekifbaaDoor
