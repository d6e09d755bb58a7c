/-
  What each type of the translation is, for the abstract logic. Written by a program of ours.
-/
import Derived.Test.YtmnmbkcdjpidgaaProg
import Derived.Test.YtmnmbkcdjpidgaaAbsWp
set_option maxRecDepth 100000
namespace Go.Proofs.Ytmnmbkcdjpidgaa
open Go Go.Abs
@[simp] theorem ti_1 : tinfo Try.prog 1 = { ok := true, agg := false, cells := 1, bytes := 8, kind := .func, zok := true, zero := [.lit .nilFunc] } := by kernel_rfl
@[simp] theorem ti_2 : tinfo Try.prog 2 = { ok := true, agg := false, cells := 1, bytes := 8, kind := .int .i64, zok := true, zero := [.int .i64 0] } := by kernel_rfl
@[simp] theorem fl_2 : flat Try.prog 50 2 = some [.int] := by kernel_rfl
@[simp] theorem ti_3 : tinfo Try.prog 3 = { ok := true, agg := false, cells := 1, bytes := 8, kind := .int .i64, zok := true, zero := [.int .i64 0] } := by kernel_rfl
@[simp] theorem fl_3 : flat Try.prog 50 3 = some [.int] := by kernel_rfl
@[simp] theorem ti_4 : tinfo Try.prog 4 = { ok := true, agg := false, cells := 1, bytes := 1, kind := .bool, zok := true, zero := [.bool false] } := by kernel_rfl
@[simp] theorem fl_4 : flat Try.prog 50 4 = some [.bool] := by kernel_rfl
@[simp] theorem ti_5 : tinfo Try.prog 5 = { ok := true, agg := false, cells := 1, bytes := 1, kind := .int .u8, zok := true, zero := [.int .u8 0] } := by kernel_rfl
@[simp] theorem fl_5 : flat Try.prog 50 5 = some [.int] := by kernel_rfl
@[simp] theorem ti_6 : tinfo Try.prog 6 = { ok := true, agg := false, cells := 1, bytes := 1, kind := .int .u8, zok := true, zero := [.int .u8 0] } := by kernel_rfl
@[simp] theorem fl_6 : flat Try.prog 50 6 = some [.int] := by kernel_rfl
@[simp] theorem ti_7 : tinfo Try.prog 7 = { ok := true, agg := true, cells := 4, bytes := 24, kind := .struct [(0, 1, 2), (1, 1, 3), (2, 1, 4), (3, 1, 6)], zok := true, zero := [.int .i64 0, .int .i64 0, .bool false, .int .u8 0] } := by kernel_rfl
@[simp] theorem ti_8 : tinfo Try.prog 8 = { ok := true, agg := true, cells := 4, bytes := 24, kind := .struct [(0, 1, 2), (1, 1, 3), (2, 1, 4), (3, 1, 6)], zok := true, zero := [.int .i64 0, .int .i64 0, .bool false, .int .u8 0] } := by kernel_rfl
@[simp] theorem ti_9 : tinfo Try.prog 9 = { ok := true, agg := false, cells := 1, bytes := 16, kind := .string, zok := true, zero := [.str []] } := by kernel_rfl
@[simp] theorem fl_9 : flat Try.prog 50 9 = some [.str] := by kernel_rfl
@[simp] theorem ti_10 : tinfo Try.prog 10 = { ok := true, agg := false, cells := 1, bytes := 16, kind := .string, zok := true, zero := [.str []] } := by kernel_rfl
@[simp] theorem fl_10 : flat Try.prog 50 10 = some [.str] := by kernel_rfl
@[simp] theorem ti_11 : tinfo Try.prog 11 = { ok := true, agg := false, cells := 1, bytes := 16, kind := .string, zok := true, zero := [.str []] } := by kernel_rfl
@[simp] theorem fl_11 : flat Try.prog 50 11 = some [.str] := by kernel_rfl
@[simp] theorem ti_12 : tinfo Try.prog 12 = { ok := true, agg := false, cells := 1, bytes := 8, kind := .int .u64, zok := true, zero := [.int .u64 0] } := by kernel_rfl
@[simp] theorem fl_12 : flat Try.prog 50 12 = some [.int] := by kernel_rfl
@[simp] theorem ti_13 : tinfo Try.prog 13 = { ok := true, agg := true, cells := 2, bytes := 24, kind := .struct [(0, 1, 9), (1, 1, 12)], zok := true, zero := [.str [], .int .u64 0] } := by kernel_rfl
@[simp] theorem ti_14 : tinfo Try.prog 14 = { ok := true, agg := true, cells := 2, bytes := 24, kind := .struct [(0, 1, 9), (1, 1, 12)], zok := true, zero := [.str [], .int .u64 0] } := by kernel_rfl
@[simp] theorem ti_15 : tinfo Try.prog 15 = { ok := true, agg := false, cells := 1, bytes := 8, kind := .pointer 78, zok := true, zero := [.lit (.pointer none)] } := by kernel_rfl
@[simp] theorem ti_16 : tinfo Try.prog 16 = { ok := true, agg := false, cells := 1, bytes := 8, kind := .pointer 81, zok := true, zero := [.lit (.pointer none)] } := by kernel_rfl
@[simp] theorem ti_17 : tinfo Try.prog 17 = { ok := true, agg := false, cells := 1, bytes := 8, kind := .pointer 91, zok := true, zero := [.lit (.pointer none)] } := by kernel_rfl
@[simp] theorem ti_18 : tinfo Try.prog 18 = { ok := true, agg := true, cells := 1, bytes := 8, kind := .struct [(0, 1, 17)], zok := true, zero := [.lit (.pointer none)] } := by kernel_rfl
@[simp] theorem ti_19 : tinfo Try.prog 19 = { ok := true, agg := true, cells := 1, bytes := 8, kind := .struct [(0, 1, 17)], zok := true, zero := [.lit (.pointer none)] } := by kernel_rfl
@[simp] theorem ti_20 : tinfo Try.prog 20 = { ok := true, agg := false, cells := 1, bytes := 16, kind := .iface, zok := true, zero := [.lit .nilIface] } := by kernel_rfl
@[simp] theorem ti_21 : tinfo Try.prog 21 = { ok := true, agg := false, cells := 1, bytes := 4, kind := .int .i32, zok := true, zero := [.int .i32 0] } := by kernel_rfl
@[simp] theorem fl_21 : flat Try.prog 50 21 = some [.int] := by kernel_rfl
@[simp] theorem ti_22 : tinfo Try.prog 22 = { ok := true, agg := true, cells := 7, bytes := 80, kind := .struct [(0, 1, 9), (1, 1, 3), (2, 1, 3), (3, 1, 9), (4, 1, 9), (5, 1, 3), (6, 1, 3)], zok := true, zero := [.str [], .int .i64 0, .int .i64 0, .str [], .str [], .int .i64 0, .int .i64 0] } := by kernel_rfl
@[simp] theorem fl_22 : flat Try.prog 50 22 = some [.str, .int, .int, .str, .str, .int, .int] := by kernel_rfl
@[simp] theorem eg_22 : Try.prog.eqGuardType Try.prog.depth 22 = false := by kernel_rfl
@[simp] theorem ti_23 : tinfo Try.prog 23 = { ok := true, agg := true, cells := 7, bytes := 80, kind := .struct [(0, 1, 9), (1, 1, 3), (2, 1, 3), (3, 1, 9), (4, 1, 9), (5, 1, 3), (6, 1, 3)], zok := true, zero := [.str [], .int .i64 0, .int .i64 0, .str [], .str [], .int .i64 0, .int .i64 0] } := by kernel_rfl
@[simp] theorem fl_23 : flat Try.prog 50 23 = some [.str, .int, .int, .str, .str, .int, .int] := by kernel_rfl
@[simp] theorem eg_23 : Try.prog.eqGuardType Try.prog.depth 23 = false := by kernel_rfl
@[simp] theorem ti_24 : tinfo Try.prog 24 = { ok := true, agg := true, cells := 11, bytes := 120, kind := .struct [(0, 7, 23), (7, 1, 3), (8, 1, 9), (9, 1, 3), (10, 1, 3)], zok := true, zero := [.str [], .int .i64 0, .int .i64 0, .str [], .str [], .int .i64 0, .int .i64 0, .int .i64 0, .str [], .int .i64 0, .int .i64 0] } := by kernel_rfl
@[simp] theorem fl_24 : flat Try.prog 50 24 = some [.str, .int, .int, .str, .str, .int, .int, .int, .str, .int, .int] := by kernel_rfl
@[simp] theorem eg_24 : Try.prog.eqGuardType Try.prog.depth 24 = false := by kernel_rfl
@[simp] theorem ti_25 : tinfo Try.prog 25 = { ok := true, agg := true, cells := 11, bytes := 120, kind := .struct [(0, 7, 23), (7, 1, 3), (8, 1, 9), (9, 1, 3), (10, 1, 3)], zok := true, zero := [.str [], .int .i64 0, .int .i64 0, .str [], .str [], .int .i64 0, .int .i64 0, .int .i64 0, .str [], .int .i64 0, .int .i64 0] } := by kernel_rfl
@[simp] theorem fl_25 : flat Try.prog 50 25 = some [.str, .int, .int, .str, .str, .int, .int, .int, .str, .int, .int] := by kernel_rfl
@[simp] theorem eg_25 : Try.prog.eqGuardType Try.prog.depth 25 = false := by kernel_rfl
@[simp] theorem ti_26 : tinfo Try.prog 26 = { ok := true, agg := false, cells := 1, bytes := 24, kind := .slice 93, zok := true, zero := [.nil] } := by kernel_rfl
@[simp] theorem ti_27 : tinfo Try.prog 27 = { ok := true, agg := true, cells := 8, bytes := 112, kind := .struct [(0, 1, 9), (1, 1, 9), (2, 1, 3), (3, 1, 9), (4, 1, 9), (5, 1, 3), (6, 1, 3), (7, 1, 26)], zok := true, zero := [.str [], .str [], .int .i64 0, .str [], .str [], .int .i64 0, .int .i64 0, .nil] } := by kernel_rfl
@[simp] theorem ti_28 : tinfo Try.prog 28 = { ok := true, agg := true, cells := 8, bytes := 112, kind := .struct [(0, 1, 9), (1, 1, 9), (2, 1, 3), (3, 1, 9), (4, 1, 9), (5, 1, 3), (6, 1, 3), (7, 1, 26)], zok := true, zero := [.str [], .str [], .int .i64 0, .str [], .str [], .int .i64 0, .int .i64 0, .nil] } := by kernel_rfl
@[simp] theorem ti_29 : tinfo Try.prog 29 = { ok := true, agg := false, cells := 1, bytes := 8, kind := .func, zok := true, zero := [.lit .nilFunc] } := by kernel_rfl
@[simp] theorem ti_30 : tinfo Try.prog 30 = { ok := true, agg := false, cells := 1, bytes := 8, kind := .func, zok := true, zero := [.lit .nilFunc] } := by kernel_rfl
@[simp] theorem ti_31 : tinfo Try.prog 31 = { ok := true, agg := false, cells := 1, bytes := 8, kind := .func, zok := true, zero := [.lit .nilFunc] } := by kernel_rfl
@[simp] theorem ti_32 : tinfo Try.prog 32 = { ok := true, agg := false, cells := 1, bytes := 8, kind := .func, zok := true, zero := [.lit .nilFunc] } := by kernel_rfl
@[simp] theorem ti_33 : tinfo Try.prog 33 = { ok := true, agg := false, cells := 1, bytes := 8, kind := .func, zok := true, zero := [.lit .nilFunc] } := by kernel_rfl
@[simp] theorem ti_34 : tinfo Try.prog 34 = { ok := true, agg := false, cells := 1, bytes := 24, kind := .slice 25, zok := true, zero := [.nil] } := by kernel_rfl
@[simp] theorem ti_35 : tinfo Try.prog 35 = { ok := true, agg := false, cells := 1, bytes := 8, kind := .func, zok := true, zero := [.lit .nilFunc] } := by kernel_rfl
@[simp] theorem ti_36 : tinfo Try.prog 36 = { ok := true, agg := false, cells := 1, bytes := 24, kind := .slice 34, zok := true, zero := [.nil] } := by kernel_rfl
@[simp] theorem ti_37 : tinfo Try.prog 37 = { ok := true, agg := false, cells := 1, bytes := 8, kind := .func, zok := true, zero := [.lit .nilFunc] } := by kernel_rfl
@[simp] theorem ti_38 : tinfo Try.prog 38 = { ok := true, agg := false, cells := 1, bytes := 8, kind := .func, zok := true, zero := [.lit .nilFunc] } := by kernel_rfl
@[simp] theorem ti_39 : tinfo Try.prog 39 = { ok := true, agg := false, cells := 1, bytes := 8, kind := .func, zok := true, zero := [.lit .nilFunc] } := by kernel_rfl
@[simp] theorem ti_40 : tinfo Try.prog 40 = { ok := true, agg := false, cells := 1, bytes := 24, kind := .slice 41, zok := true, zero := [.nil] } := by kernel_rfl
@[simp] theorem ti_41 : tinfo Try.prog 41 = { ok := true, agg := false, cells := 1, bytes := 24, kind := .slice 3, zok := true, zero := [.nil] } := by kernel_rfl
@[simp] theorem ti_42 : tinfo Try.prog 42 = { ok := true, agg := true, cells := 3, bytes := 72, kind := .struct [(0, 1, 40), (1, 1, 41), (2, 1, 41)], zok := true, zero := [.nil, .nil, .nil] } := by kernel_rfl
@[simp] theorem ti_43 : tinfo Try.prog 43 = { ok := true, agg := true, cells := 3, bytes := 72, kind := .struct [(0, 1, 40), (1, 1, 41), (2, 1, 41)], zok := true, zero := [.nil, .nil, .nil] } := by kernel_rfl
@[simp] theorem ti_44 : tinfo Try.prog 44 = { ok := true, agg := false, cells := 1, bytes := 8, kind := .func, zok := true, zero := [.lit .nilFunc] } := by kernel_rfl
@[simp] theorem ti_45 : tinfo Try.prog 45 = { ok := true, agg := false, cells := 1, bytes := 8, kind := .func, zok := true, zero := [.lit .nilFunc] } := by kernel_rfl
@[simp] theorem ti_46 : tinfo Try.prog 46 = { ok := true, agg := false, cells := 1, bytes := 8, kind := .func, zok := true, zero := [.lit .nilFunc] } := by kernel_rfl
@[simp] theorem ti_47 : tinfo Try.prog 47 = { ok := true, agg := false, cells := 1, bytes := 8, kind := .func, zok := true, zero := [.lit .nilFunc] } := by kernel_rfl
@[simp] theorem ti_48 : tinfo Try.prog 48 = { ok := true, agg := false, cells := 1, bytes := 8, kind := .map 9 4, zok := true, zero := [.lit (.map none)] } := by kernel_rfl
@[simp] theorem ti_49 : tinfo Try.prog 49 = { ok := true, agg := false, cells := 1, bytes := 8, kind := .func, zok := true, zero := [.lit .nilFunc] } := by kernel_rfl
@[simp] theorem ti_50 : tinfo Try.prog 50 = { ok := true, agg := false, cells := 1, bytes := 8, kind := .func, zok := true, zero := [.lit .nilFunc] } := by kernel_rfl
@[simp] theorem ti_51 : tinfo Try.prog 51 = { ok := true, agg := false, cells := 1, bytes := 24, kind := .slice 28, zok := true, zero := [.nil] } := by kernel_rfl
@[simp] theorem ti_52 : tinfo Try.prog 52 = { ok := true, agg := false, cells := 1, bytes := 8, kind := .func, zok := true, zero := [.lit .nilFunc] } := by kernel_rfl
@[simp] theorem ti_53 : tinfo Try.prog 53 = { ok := true, agg := false, cells := 1, bytes := 8, kind := .func, zok := true, zero := [.lit .nilFunc] } := by kernel_rfl
@[simp] theorem ti_54 : tinfo Try.prog 54 = { ok := true, agg := false, cells := 1, bytes := 8, kind := .func, zok := true, zero := [.lit .nilFunc] } := by kernel_rfl
@[simp] theorem ti_55 : tinfo Try.prog 55 = { ok := true, agg := false, cells := 1, bytes := 8, kind := .func, zok := true, zero := [.lit .nilFunc] } := by kernel_rfl
@[simp] theorem ti_56 : tinfo Try.prog 56 = { ok := true, agg := false, cells := 1, bytes := 8, kind := .func, zok := true, zero := [.lit .nilFunc] } := by kernel_rfl
@[simp] theorem ti_57 : tinfo Try.prog 57 = { ok := true, agg := false, cells := 1, bytes := 8, kind := .func, zok := true, zero := [.lit .nilFunc] } := by kernel_rfl
@[simp] theorem ti_58 : tinfo Try.prog 58 = { ok := true, agg := false, cells := 1, bytes := 8, kind := .func, zok := true, zero := [.lit .nilFunc] } := by kernel_rfl
@[simp] theorem ti_59 : tinfo Try.prog 59 = { ok := true, agg := false, cells := 1, bytes := 8, kind := .func, zok := true, zero := [.lit .nilFunc] } := by kernel_rfl
@[simp] theorem ti_60 : tinfo Try.prog 60 = { ok := true, agg := false, cells := 1, bytes := 8, kind := .func, zok := true, zero := [.lit .nilFunc] } := by kernel_rfl
@[simp] theorem ti_61 : tinfo Try.prog 61 = { ok := true, agg := false, cells := 1, bytes := 8, kind := .func, zok := true, zero := [.lit .nilFunc] } := by kernel_rfl
@[simp] theorem ti_62 : tinfo Try.prog 62 = { ok := true, agg := false, cells := 1, bytes := 8, kind := .func, zok := true, zero := [.lit .nilFunc] } := by kernel_rfl
@[simp] theorem ti_63 : tinfo Try.prog 63 = { ok := true, agg := false, cells := 1, bytes := 8, kind := .func, zok := true, zero := [.lit .nilFunc] } := by kernel_rfl
@[simp] theorem ti_64 : tinfo Try.prog 64 = { ok := true, agg := false, cells := 1, bytes := 8, kind := .func, zok := true, zero := [.lit .nilFunc] } := by kernel_rfl
@[simp] theorem ti_65 : tinfo Try.prog 65 = { ok := true, agg := false, cells := 1, bytes := 8, kind := .func, zok := true, zero := [.lit .nilFunc] } := by kernel_rfl
@[simp] theorem ti_66 : tinfo Try.prog 66 = { ok := true, agg := false, cells := 1, bytes := 8, kind := .func, zok := true, zero := [.lit .nilFunc] } := by kernel_rfl
@[simp] theorem ti_67 : tinfo Try.prog 67 = { ok := true, agg := false, cells := 1, bytes := 8, kind := .func, zok := true, zero := [.lit .nilFunc] } := by kernel_rfl
@[simp] theorem ti_68 : tinfo Try.prog 68 = { ok := true, agg := false, cells := 1, bytes := 8, kind := .func, zok := true, zero := [.lit .nilFunc] } := by kernel_rfl
@[simp] theorem ti_69 : tinfo Try.prog 69 = { ok := true, agg := false, cells := 1, bytes := 8, kind := .func, zok := true, zero := [.lit .nilFunc] } := by kernel_rfl
@[simp] theorem ti_70 : tinfo Try.prog 70 = { ok := true, agg := false, cells := 1, bytes := 8, kind := .func, zok := true, zero := [.lit .nilFunc] } := by kernel_rfl
@[simp] theorem ti_71 : tinfo Try.prog 71 = { ok := true, agg := false, cells := 1, bytes := 8, kind := .int .u64, zok := true, zero := [.int .u64 0] } := by kernel_rfl
@[simp] theorem fl_71 : flat Try.prog 50 71 = some [.int] := by kernel_rfl
@[simp] theorem ti_72 : tinfo Try.prog 72 = { ok := true, agg := false, cells := 1, bytes := 8, kind := .func, zok := true, zero := [.lit .nilFunc] } := by kernel_rfl
@[simp] theorem ti_73 : tinfo Try.prog 73 = { ok := true, agg := false, cells := 1, bytes := 8, kind := .func, zok := true, zero := [.lit .nilFunc] } := by kernel_rfl
@[simp] theorem ti_74 : tinfo Try.prog 74 = { ok := true, agg := false, cells := 1, bytes := 8, kind := .map 5 9, zok := true, zero := [.lit (.map none)] } := by kernel_rfl
@[simp] theorem ti_75 : tinfo Try.prog 75 = { ok := true, agg := false, cells := 1, bytes := 8, kind := .func, zok := true, zero := [.lit .nilFunc] } := by kernel_rfl
@[simp] theorem ti_76 : tinfo Try.prog 76 = { ok := true, agg := false, cells := 1, bytes := 8, kind := .func, zok := true, zero := [.lit .nilFunc] } := by kernel_rfl
@[simp] theorem ti_77 : tinfo Try.prog 77 = { ok := true, agg := true, cells := 4, bytes := 40, kind := .struct [(0, 1, 17), (1, 1, 17), (2, 1, 17), (3, 1, 9)], zok := true, zero := [.lit (.pointer none), .lit (.pointer none), .lit (.pointer none), .str []] } := by kernel_rfl
@[simp] theorem ti_78 : tinfo Try.prog 78 = { ok := true, agg := true, cells := 4, bytes := 40, kind := .struct [(0, 1, 17), (1, 1, 17), (2, 1, 17), (3, 1, 9)], zok := true, zero := [.lit (.pointer none), .lit (.pointer none), .lit (.pointer none), .str []] } := by kernel_rfl
@[simp] theorem ti_79 : tinfo Try.prog 79 = { ok := true, agg := true, cells := 0, bytes := 0, kind := .array 0 16, zok := true, zero := [] } := by kernel_rfl
@[simp] theorem ti_80 : tinfo Try.prog 80 = { ok := true, agg := true, cells := 0, bytes := 0, kind := .struct [(0, 0, 79)], zok := true, zero := [] } := by kernel_rfl
@[simp] theorem ti_81 : tinfo Try.prog 81 = { ok := true, agg := true, cells := 0, bytes := 0, kind := .struct [(0, 0, 79)], zok := true, zero := [] } := by kernel_rfl
@[simp] theorem ti_82 : tinfo Try.prog 82 = { ok := true, agg := false, cells := 1, bytes := 8, kind := .func, zok := true, zero := [.lit .nilFunc] } := by kernel_rfl
@[simp] theorem ti_83 : tinfo Try.prog 83 = { ok := true, agg := false, cells := 1, bytes := 4, kind := .int .u32, zok := true, zero := [.int .u32 0] } := by kernel_rfl
@[simp] theorem fl_83 : flat Try.prog 50 83 = some [.int] := by kernel_rfl
@[simp] theorem ti_84 : tinfo Try.prog 84 = { ok := true, agg := false, cells := 1, bytes := 1, kind := .int .u8, zok := true, zero := [.int .u8 0] } := by kernel_rfl
@[simp] theorem fl_84 : flat Try.prog 50 84 = some [.int] := by kernel_rfl
@[simp] theorem ti_85 : tinfo Try.prog 85 = { ok := true, agg := false, cells := 1, bytes := 1, kind := .int .u8, zok := true, zero := [.int .u8 0] } := by kernel_rfl
@[simp] theorem fl_85 : flat Try.prog 50 85 = some [.int] := by kernel_rfl
@[simp] theorem ti_86 : tinfo Try.prog 86 = { ok := true, agg := false, cells := 1, bytes := 8, kind := .func, zok := true, zero := [.lit .nilFunc] } := by kernel_rfl
@[simp] theorem ti_87 : tinfo Try.prog 87 = { ok := true, agg := false, cells := 1, bytes := 8, kind := .pointer 5, zok := true, zero := [.lit (.pointer none)] } := by kernel_rfl
@[simp] theorem ti_88 : tinfo Try.prog 88 = { ok := true, agg := false, cells := 1, bytes := 4, kind := .int .i32, zok := true, zero := [.int .i32 0] } := by kernel_rfl
@[simp] theorem fl_88 : flat Try.prog 50 88 = some [.int] := by kernel_rfl
@[simp] theorem ti_89 : tinfo Try.prog 89 = { ok := true, agg := false, cells := 1, bytes := 4, kind := .int .i32, zok := true, zero := [.int .i32 0] } := by kernel_rfl
@[simp] theorem fl_89 : flat Try.prog 50 89 = some [.int] := by kernel_rfl
@[simp] theorem ti_90 : tinfo Try.prog 90 = { ok := true, agg := true, cells := 11, bytes := 48, kind := .struct [(0, 1, 12), (1, 1, 12), (2, 1, 83), (3, 1, 84), (4, 1, 5), (5, 1, 5), (6, 1, 85), (7, 1, 86), (8, 1, 87), (9, 1, 88), (10, 1, 89)], zok := true, zero := [.int .u64 0, .int .u64 0, .int .u32 0, .int .u8 0, .int .u8 0, .int .u8 0, .int .u8 0, .lit .nilFunc, .lit (.pointer none), .int .i32 0, .int .i32 0] } := by kernel_rfl
@[simp] theorem ti_91 : tinfo Try.prog 91 = { ok := true, agg := true, cells := 11, bytes := 48, kind := .struct [(0, 1, 12), (1, 1, 12), (2, 1, 83), (3, 1, 84), (4, 1, 5), (5, 1, 5), (6, 1, 85), (7, 1, 86), (8, 1, 87), (9, 1, 88), (10, 1, 89)], zok := true, zero := [.int .u64 0, .int .u64 0, .int .u32 0, .int .u8 0, .int .u8 0, .int .u8 0, .int .u8 0, .lit .nilFunc, .lit (.pointer none), .int .i32 0, .int .i32 0] } := by kernel_rfl
@[simp] theorem ti_92 : tinfo Try.prog 92 = { ok := true, agg := true, cells := 2, bytes := 24, kind := .struct [(0, 1, 9), (1, 1, 3)], zok := true, zero := [.str [], .int .i64 0] } := by kernel_rfl
@[simp] theorem fl_92 : flat Try.prog 50 92 = some [.str, .int] := by kernel_rfl
@[simp] theorem eg_92 : Try.prog.eqGuardType Try.prog.depth 92 = false := by kernel_rfl
@[simp] theorem ti_93 : tinfo Try.prog 93 = { ok := true, agg := true, cells := 2, bytes := 24, kind := .struct [(0, 1, 9), (1, 1, 3)], zok := true, zero := [.str [], .int .i64 0] } := by kernel_rfl
@[simp] theorem fl_93 : flat Try.prog 50 93 = some [.str, .int] := by kernel_rfl
@[simp] theorem eg_93 : Try.prog.eqGuardType Try.prog.depth 93 = false := by kernel_rfl
theorem mixed : Try.prog.follows .mixedOrders = true := by kernel_rfl
end Go.Proofs.Ytmnmbkcdjpidgaa
