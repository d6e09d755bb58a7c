/-
  What each type of the translation is, for the abstract logic. Written by a program of ours.
-/
import Derived.Test.YtmdenljmfeejfaaProg
import Derived.Test.YtmdenljmfeejfaaAbsWp
set_option maxRecDepth 100000
namespace Go.Proofs.Ytmdenljmfeejfaa
open Go Go.Abs
@[simp] theorem ti_1 : tinfo Try.prog 1 = { ok := true, agg := false, cells := 1, bytes := 8, kind := .func, zok := true, zero := [.lit .nilFunc] } := by kernel_rfl
@[simp] theorem ti_2 : tinfo Try.prog 2 = { ok := true, agg := false, cells := 1, bytes := 8, kind := .int .i64, zok := true, zero := [.int .i64 0] } := by kernel_rfl
@[simp] theorem fl_2 : flat Try.prog 50 2 = some [.int] := by kernel_rfl
@[simp] theorem ti_3 : tinfo Try.prog 3 = { ok := true, agg := false, cells := 1, bytes := 8, kind := .int .i64, zok := true, zero := [.int .i64 0] } := by kernel_rfl
@[simp] theorem fl_3 : flat Try.prog 50 3 = some [.int] := by kernel_rfl
@[simp] theorem ti_4 : tinfo Try.prog 4 = { ok := true, agg := false, cells := 1, bytes := 1, kind := .bool, zok := true, zero := [.bool false] } := by kernel_rfl
@[simp] theorem fl_4 : flat Try.prog 50 4 = some [.bool] := by kernel_rfl
@[simp] theorem ti_5 : tinfo Try.prog 5 = { ok := true, agg := false, cells := 1, bytes := 1, kind := .int .u8, zok := true, zero := [.int .u8 0] } := by kernel_rfl
@[simp] theorem fl_5 : flat Try.prog 50 5 = some [.int] := by kernel_rfl
@[simp] theorem ti_6 : tinfo Try.prog 6 = { ok := true, agg := false, cells := 1, bytes := 1, kind := .int .u8, zok := true, zero := [.int .u8 0] } := by kernel_rfl
@[simp] theorem fl_6 : flat Try.prog 50 6 = some [.int] := by kernel_rfl
@[simp] theorem ti_7 : tinfo Try.prog 7 = { ok := true, agg := true, cells := 4, bytes := 24, kind := .struct [(0, 1, 2), (1, 1, 3), (2, 1, 4), (3, 1, 6)], zok := true, zero := [.int .i64 0, .int .i64 0, .bool false, .int .u8 0] } := by kernel_rfl
@[simp] theorem ti_8 : tinfo Try.prog 8 = { ok := true, agg := true, cells := 4, bytes := 24, kind := .struct [(0, 1, 2), (1, 1, 3), (2, 1, 4), (3, 1, 6)], zok := true, zero := [.int .i64 0, .int .i64 0, .bool false, .int .u8 0] } := by kernel_rfl
@[simp] theorem ti_9 : tinfo Try.prog 9 = { ok := true, agg := false, cells := 1, bytes := 16, kind := .string, zok := true, zero := [.str []] } := by kernel_rfl
@[simp] theorem fl_9 : flat Try.prog 50 9 = some [.str] := by kernel_rfl
@[simp] theorem ti_10 : tinfo Try.prog 10 = { ok := true, agg := false, cells := 1, bytes := 16, kind := .string, zok := true, zero := [.str []] } := by kernel_rfl
@[simp] theorem fl_10 : flat Try.prog 50 10 = some [.str] := by kernel_rfl
@[simp] theorem ti_11 : tinfo Try.prog 11 = { ok := true, agg := false, cells := 1, bytes := 16, kind := .string, zok := true, zero := [.str []] } := by kernel_rfl
@[simp] theorem fl_11 : flat Try.prog 50 11 = some [.str] := by kernel_rfl
@[simp] theorem ti_12 : tinfo Try.prog 12 = { ok := true, agg := false, cells := 1, bytes := 8, kind := .int .u64, zok := true, zero := [.int .u64 0] } := by kernel_rfl
@[simp] theorem fl_12 : flat Try.prog 50 12 = some [.int] := by kernel_rfl
@[simp] theorem ti_13 : tinfo Try.prog 13 = { ok := true, agg := true, cells := 2, bytes := 24, kind := .struct [(0, 1, 9), (1, 1, 12)], zok := true, zero := [.str [], .int .u64 0] } := by kernel_rfl
@[simp] theorem ti_14 : tinfo Try.prog 14 = { ok := true, agg := true, cells := 2, bytes := 24, kind := .struct [(0, 1, 9), (1, 1, 12)], zok := true, zero := [.str [], .int .u64 0] } := by kernel_rfl
@[simp] theorem ti_15 : tinfo Try.prog 15 = { ok := true, agg := false, cells := 1, bytes := 8, kind := .pointer 102, zok := true, zero := [.lit (.pointer none)] } := by kernel_rfl
@[simp] theorem ti_16 : tinfo Try.prog 16 = { ok := true, agg := false, cells := 1, bytes := 8, kind := .pointer 105, zok := true, zero := [.lit (.pointer none)] } := by kernel_rfl
@[simp] theorem ti_17 : tinfo Try.prog 17 = { ok := true, agg := false, cells := 1, bytes := 8, kind := .pointer 114, zok := true, zero := [.lit (.pointer none)] } := by kernel_rfl
@[simp] theorem ti_18 : tinfo Try.prog 18 = { ok := true, agg := true, cells := 1, bytes := 8, kind := .struct [(0, 1, 17)], zok := true, zero := [.lit (.pointer none)] } := by kernel_rfl
@[simp] theorem ti_19 : tinfo Try.prog 19 = { ok := true, agg := true, cells := 1, bytes := 8, kind := .struct [(0, 1, 17)], zok := true, zero := [.lit (.pointer none)] } := by kernel_rfl
@[simp] theorem ti_20 : tinfo Try.prog 20 = { ok := true, agg := false, cells := 1, bytes := 16, kind := .iface, zok := true, zero := [.lit .nilIface] } := by kernel_rfl
@[simp] theorem ti_21 : tinfo Try.prog 21 = { ok := true, agg := false, cells := 1, bytes := 4, kind := .int .i32, zok := true, zero := [.int .i32 0] } := by kernel_rfl
@[simp] theorem fl_21 : flat Try.prog 50 21 = some [.int] := by kernel_rfl
@[simp] theorem ti_22 : tinfo Try.prog 22 = { ok := true, agg := false, cells := 1, bytes := 24, kind := .slice 31, zok := true, zero := [.nil] } := by kernel_rfl
@[simp] theorem ti_23 : tinfo Try.prog 23 = { ok := true, agg := true, cells := 3, bytes := 48, kind := .struct [(0, 1, 9), (1, 1, 3), (2, 1, 22)], zok := true, zero := [.str [], .int .i64 0, .nil] } := by kernel_rfl
@[simp] theorem ti_24 : tinfo Try.prog 24 = { ok := true, agg := true, cells := 3, bytes := 48, kind := .struct [(0, 1, 9), (1, 1, 3), (2, 1, 22)], zok := true, zero := [.str [], .int .i64 0, .nil] } := by kernel_rfl
@[simp] theorem ti_25 : tinfo Try.prog 25 = { ok := true, agg := false, cells := 1, bytes := 8, kind := .func, zok := true, zero := [.lit .nilFunc] } := by kernel_rfl
@[simp] theorem ti_26 : tinfo Try.prog 26 = { ok := true, agg := false, cells := 1, bytes := 8, kind := .int .i64, zok := true, zero := [.int .i64 0] } := by kernel_rfl
@[simp] theorem fl_26 : flat Try.prog 50 26 = some [.int] := by kernel_rfl
@[simp] theorem ti_27 : tinfo Try.prog 27 = { ok := true, agg := false, cells := 1, bytes := 8, kind := .func, zok := true, zero := [.lit .nilFunc] } := by kernel_rfl
@[simp] theorem ti_28 : tinfo Try.prog 28 = { ok := true, agg := false, cells := 1, bytes := 8, kind := .func, zok := true, zero := [.lit .nilFunc] } := by kernel_rfl
@[simp] theorem ti_29 : tinfo Try.prog 29 = { ok := true, agg := false, cells := 1, bytes := 8, kind := .func, zok := true, zero := [.lit .nilFunc] } := by kernel_rfl
@[simp] theorem ti_30 : tinfo Try.prog 30 = { ok := true, agg := true, cells := 2, bytes := 24, kind := .struct [(0, 1, 9), (1, 1, 3)], zok := true, zero := [.str [], .int .i64 0] } := by kernel_rfl
@[simp] theorem fl_30 : flat Try.prog 50 30 = some [.str, .int] := by kernel_rfl
@[simp] theorem eg_30 : Try.prog.eqGuardType Try.prog.depth 30 = false := by kernel_rfl
@[simp] theorem ti_31 : tinfo Try.prog 31 = { ok := true, agg := true, cells := 2, bytes := 24, kind := .struct [(0, 1, 9), (1, 1, 3)], zok := true, zero := [.str [], .int .i64 0] } := by kernel_rfl
@[simp] theorem fl_31 : flat Try.prog 50 31 = some [.str, .int] := by kernel_rfl
@[simp] theorem eg_31 : Try.prog.eqGuardType Try.prog.depth 31 = false := by kernel_rfl
@[simp] theorem ti_32 : tinfo Try.prog 32 = { ok := true, agg := false, cells := 1, bytes := 8, kind := .func, zok := true, zero := [.lit .nilFunc] } := by kernel_rfl
@[simp] theorem ti_33 : tinfo Try.prog 33 = { ok := true, agg := false, cells := 1, bytes := 24, kind := .slice 24, zok := true, zero := [.nil] } := by kernel_rfl
@[simp] theorem ti_34 : tinfo Try.prog 34 = { ok := true, agg := true, cells := 1, bytes := 24, kind := .struct [(0, 1, 33)], zok := true, zero := [.nil] } := by kernel_rfl
@[simp] theorem ti_35 : tinfo Try.prog 35 = { ok := true, agg := true, cells := 1, bytes := 24, kind := .struct [(0, 1, 33)], zok := true, zero := [.nil] } := by kernel_rfl
@[simp] theorem ti_37 : tinfo Try.prog 37 = { ok := true, agg := false, cells := 1, bytes := 8, kind := .func, zok := true, zero := [.lit .nilFunc] } := by kernel_rfl
@[simp] theorem ti_39 : tinfo Try.prog 39 = { ok := true, agg := false, cells := 1, bytes := 8, kind := .func, zok := true, zero := [.lit .nilFunc] } := by kernel_rfl
@[simp] theorem ti_41 : tinfo Try.prog 41 = { ok := true, agg := false, cells := 1, bytes := 8, kind := .func, zok := true, zero := [.lit .nilFunc] } := by kernel_rfl
@[simp] theorem ti_42 : tinfo Try.prog 42 = { ok := true, agg := false, cells := 1, bytes := 8, kind := .func, zok := true, zero := [.lit .nilFunc] } := by kernel_rfl
@[simp] theorem ti_43 : tinfo Try.prog 43 = { ok := true, agg := false, cells := 1, bytes := 8, kind := .func, zok := true, zero := [.lit .nilFunc] } := by kernel_rfl
@[simp] theorem ti_44 : tinfo Try.prog 44 = { ok := true, agg := true, cells := 3, bytes := 40, kind := .struct [(0, 1, 9), (1, 1, 9), (2, 1, 3)], zok := true, zero := [.str [], .str [], .int .i64 0] } := by kernel_rfl
@[simp] theorem fl_44 : flat Try.prog 50 44 = some [.str, .str, .int] := by kernel_rfl
@[simp] theorem eg_44 : Try.prog.eqGuardType Try.prog.depth 44 = false := by kernel_rfl
@[simp] theorem ti_45 : tinfo Try.prog 45 = { ok := true, agg := true, cells := 3, bytes := 40, kind := .struct [(0, 1, 9), (1, 1, 9), (2, 1, 3)], zok := true, zero := [.str [], .str [], .int .i64 0] } := by kernel_rfl
@[simp] theorem fl_45 : flat Try.prog 50 45 = some [.str, .str, .int] := by kernel_rfl
@[simp] theorem eg_45 : Try.prog.eqGuardType Try.prog.depth 45 = false := by kernel_rfl
@[simp] theorem ti_47 : tinfo Try.prog 47 = { ok := true, agg := false, cells := 1, bytes := 8, kind := .func, zok := true, zero := [.lit .nilFunc] } := by kernel_rfl
@[simp] theorem ti_49 : tinfo Try.prog 49 = { ok := true, agg := false, cells := 1, bytes := 8, kind := .func, zok := true, zero := [.lit .nilFunc] } := by kernel_rfl
@[simp] theorem ti_50 : tinfo Try.prog 50 = { ok := true, agg := false, cells := 1, bytes := 8, kind := .func, zok := true, zero := [.lit .nilFunc] } := by kernel_rfl
@[simp] theorem ti_51 : tinfo Try.prog 51 = { ok := true, agg := false, cells := 1, bytes := 8, kind := .func, zok := true, zero := [.lit .nilFunc] } := by kernel_rfl
@[simp] theorem ti_52 : tinfo Try.prog 52 = { ok := true, agg := false, cells := 1, bytes := 8, kind := .func, zok := true, zero := [.lit .nilFunc] } := by kernel_rfl
@[simp] theorem ti_53 : tinfo Try.prog 53 = { ok := true, agg := false, cells := 1, bytes := 24, kind := .slice 9, zok := true, zero := [.nil] } := by kernel_rfl
@[simp] theorem ti_54 : tinfo Try.prog 54 = { ok := true, agg := false, cells := 1, bytes := 8, kind := .func, zok := true, zero := [.lit .nilFunc] } := by kernel_rfl
@[simp] theorem ti_55 : tinfo Try.prog 55 = { ok := true, agg := false, cells := 1, bytes := 8, kind := .func, zok := true, zero := [.lit .nilFunc] } := by kernel_rfl
@[simp] theorem ti_56 : tinfo Try.prog 56 = { ok := true, agg := false, cells := 1, bytes := 8, kind := .func, zok := true, zero := [.lit .nilFunc] } := by kernel_rfl
@[simp] theorem ti_57 : tinfo Try.prog 57 = { ok := true, agg := false, cells := 1, bytes := 8, kind := .func, zok := true, zero := [.lit .nilFunc] } := by kernel_rfl
@[simp] theorem ti_58 : tinfo Try.prog 58 = { ok := true, agg := false, cells := 1, bytes := 8, kind := .func, zok := true, zero := [.lit .nilFunc] } := by kernel_rfl
@[simp] theorem ti_59 : tinfo Try.prog 59 = { ok := true, agg := false, cells := 1, bytes := 8, kind := .func, zok := true, zero := [.lit .nilFunc] } := by kernel_rfl
@[simp] theorem ti_60 : tinfo Try.prog 60 = { ok := true, agg := false, cells := 1, bytes := 8, kind := .func, zok := true, zero := [.lit .nilFunc] } := by kernel_rfl
@[simp] theorem ti_61 : tinfo Try.prog 61 = { ok := true, agg := false, cells := 1, bytes := 8, kind := .func, zok := true, zero := [.lit .nilFunc] } := by kernel_rfl
@[simp] theorem ti_62 : tinfo Try.prog 62 = { ok := true, agg := false, cells := 1, bytes := 8, kind := .func, zok := true, zero := [.lit .nilFunc] } := by kernel_rfl
@[simp] theorem ti_63 : tinfo Try.prog 63 = { ok := true, agg := false, cells := 1, bytes := 8, kind := .func, zok := true, zero := [.lit .nilFunc] } := by kernel_rfl
@[simp] theorem ti_64 : tinfo Try.prog 64 = { ok := true, agg := false, cells := 1, bytes := 8, kind := .map 9 3, zok := true, zero := [.lit (.map none)] } := by kernel_rfl
@[simp] theorem ti_65 : tinfo Try.prog 65 = { ok := true, agg := false, cells := 1, bytes := 8, kind := .func, zok := true, zero := [.lit .nilFunc] } := by kernel_rfl
@[simp] theorem ti_66 : tinfo Try.prog 66 = { ok := true, agg := false, cells := 1, bytes := 8, kind := .func, zok := true, zero := [.lit .nilFunc] } := by kernel_rfl
@[simp] theorem ti_67 : tinfo Try.prog 67 = { ok := true, agg := false, cells := 1, bytes := 8, kind := .func, zok := true, zero := [.lit .nilFunc] } := by kernel_rfl
@[simp] theorem ti_68 : tinfo Try.prog 68 = { ok := true, agg := false, cells := 1, bytes := 8, kind := .func, zok := true, zero := [.lit .nilFunc] } := by kernel_rfl
@[simp] theorem ti_69 : tinfo Try.prog 69 = { ok := true, agg := false, cells := 1, bytes := 8, kind := .func, zok := true, zero := [.lit .nilFunc] } := by kernel_rfl
@[simp] theorem ti_70 : tinfo Try.prog 70 = { ok := true, agg := false, cells := 1, bytes := 8, kind := .func, zok := true, zero := [.lit .nilFunc] } := by kernel_rfl
@[simp] theorem ti_71 : tinfo Try.prog 71 = { ok := true, agg := false, cells := 1, bytes := 8, kind := .func, zok := true, zero := [.lit .nilFunc] } := by kernel_rfl
@[simp] theorem ti_72 : tinfo Try.prog 72 = { ok := true, agg := false, cells := 1, bytes := 8, kind := .func, zok := true, zero := [.lit .nilFunc] } := by kernel_rfl
@[simp] theorem ti_73 : tinfo Try.prog 73 = { ok := true, agg := false, cells := 1, bytes := 8, kind := .func, zok := true, zero := [.lit .nilFunc] } := by kernel_rfl
@[simp] theorem ti_74 : tinfo Try.prog 74 = { ok := true, agg := false, cells := 1, bytes := 8, kind := .func, zok := true, zero := [.lit .nilFunc] } := by kernel_rfl
@[simp] theorem ti_75 : tinfo Try.prog 75 = { ok := true, agg := false, cells := 1, bytes := 8, kind := .func, zok := true, zero := [.lit .nilFunc] } := by kernel_rfl
@[simp] theorem ti_76 : tinfo Try.prog 76 = { ok := true, agg := false, cells := 1, bytes := 8, kind := .func, zok := true, zero := [.lit .nilFunc] } := by kernel_rfl
@[simp] theorem ti_77 : tinfo Try.prog 77 = { ok := true, agg := false, cells := 1, bytes := 8, kind := .func, zok := true, zero := [.lit .nilFunc] } := by kernel_rfl
@[simp] theorem ti_78 : tinfo Try.prog 78 = { ok := true, agg := false, cells := 1, bytes := 8, kind := .func, zok := true, zero := [.lit .nilFunc] } := by kernel_rfl
@[simp] theorem ti_79 : tinfo Try.prog 79 = { ok := true, agg := false, cells := 1, bytes := 8, kind := .int .u64, zok := true, zero := [.int .u64 0] } := by kernel_rfl
@[simp] theorem fl_79 : flat Try.prog 50 79 = some [.int] := by kernel_rfl
@[simp] theorem ti_80 : tinfo Try.prog 80 = { ok := true, agg := false, cells := 1, bytes := 8, kind := .func, zok := true, zero := [.lit .nilFunc] } := by kernel_rfl
@[simp] theorem ti_81 : tinfo Try.prog 81 = { ok := true, agg := false, cells := 1, bytes := 8, kind := .int .i64, zok := true, zero := [.int .i64 0] } := by kernel_rfl
@[simp] theorem fl_81 : flat Try.prog 50 81 = some [.int] := by kernel_rfl
@[simp] theorem ti_83 : tinfo Try.prog 83 = { ok := true, agg := false, cells := 1, bytes := 8, kind := .func, zok := true, zero := [.lit .nilFunc] } := by kernel_rfl
@[simp] theorem ti_84 : tinfo Try.prog 84 = { ok := true, agg := false, cells := 1, bytes := 8, kind := .func, zok := true, zero := [.lit .nilFunc] } := by kernel_rfl
@[simp] theorem ti_85 : tinfo Try.prog 85 = { ok := true, agg := false, cells := 1, bytes := 8, kind := .func, zok := true, zero := [.lit .nilFunc] } := by kernel_rfl
@[simp] theorem ti_87 : tinfo Try.prog 87 = { ok := true, agg := false, cells := 1, bytes := 8, kind := .func, zok := true, zero := [.lit .nilFunc] } := by kernel_rfl
@[simp] theorem ti_88 : tinfo Try.prog 88 = { ok := true, agg := false, cells := 1, bytes := 8, kind := .func, zok := true, zero := [.lit .nilFunc] } := by kernel_rfl
@[simp] theorem ti_89 : tinfo Try.prog 89 = { ok := true, agg := false, cells := 1, bytes := 4, kind := .int .u32, zok := true, zero := [.int .u32 0] } := by kernel_rfl
@[simp] theorem fl_89 : flat Try.prog 50 89 = some [.int] := by kernel_rfl
@[simp] theorem ti_90 : tinfo Try.prog 90 = { ok := true, agg := false, cells := 1, bytes := 8, kind := .func, zok := true, zero := [.lit .nilFunc] } := by kernel_rfl
@[simp] theorem ti_91 : tinfo Try.prog 91 = { ok := true, agg := false, cells := 1, bytes := 8, kind := .int .u64, zok := true, zero := [.int .u64 0] } := by kernel_rfl
@[simp] theorem fl_91 : flat Try.prog 50 91 = some [.int] := by kernel_rfl
@[simp] theorem ti_92 : tinfo Try.prog 92 = { ok := true, agg := false, cells := 1, bytes := 8, kind := .int .u64, zok := true, zero := [.int .u64 0] } := by kernel_rfl
@[simp] theorem fl_92 : flat Try.prog 50 92 = some [.int] := by kernel_rfl
@[simp] theorem ti_93 : tinfo Try.prog 93 = { ok := true, agg := false, cells := 1, bytes := 8, kind := .func, zok := true, zero := [.lit .nilFunc] } := by kernel_rfl
@[simp] theorem ti_94 : tinfo Try.prog 94 = { ok := true, agg := false, cells := 1, bytes := 8, kind := .func, zok := true, zero := [.lit .nilFunc] } := by kernel_rfl
@[simp] theorem ti_95 : tinfo Try.prog 95 = { ok := true, agg := false, cells := 1, bytes := 8, kind := .func, zok := true, zero := [.lit .nilFunc] } := by kernel_rfl
@[simp] theorem ti_96 : tinfo Try.prog 96 = { ok := true, agg := false, cells := 1, bytes := 8, kind := .pointer 3, zok := true, zero := [.lit (.pointer none)] } := by kernel_rfl
@[simp] theorem ti_97 : tinfo Try.prog 97 = { ok := true, agg := false, cells := 1, bytes := 8, kind := .func, zok := true, zero := [.lit .nilFunc] } := by kernel_rfl
@[simp] theorem ti_98 : tinfo Try.prog 98 = { ok := true, agg := false, cells := 1, bytes := 8, kind := .pointer 92, zok := true, zero := [.lit (.pointer none)] } := by kernel_rfl
@[simp] theorem ti_99 : tinfo Try.prog 99 = { ok := true, agg := false, cells := 1, bytes := 8, kind := .func, zok := true, zero := [.lit .nilFunc] } := by kernel_rfl
@[simp] theorem ti_100 : tinfo Try.prog 100 = { ok := true, agg := false, cells := 1, bytes := 8, kind := .func, zok := true, zero := [.lit .nilFunc] } := by kernel_rfl
@[simp] theorem ti_101 : tinfo Try.prog 101 = { ok := true, agg := true, cells := 4, bytes := 40, kind := .struct [(0, 1, 17), (1, 1, 17), (2, 1, 17), (3, 1, 9)], zok := true, zero := [.lit (.pointer none), .lit (.pointer none), .lit (.pointer none), .str []] } := by kernel_rfl
@[simp] theorem ti_102 : tinfo Try.prog 102 = { ok := true, agg := true, cells := 4, bytes := 40, kind := .struct [(0, 1, 17), (1, 1, 17), (2, 1, 17), (3, 1, 9)], zok := true, zero := [.lit (.pointer none), .lit (.pointer none), .lit (.pointer none), .str []] } := by kernel_rfl
@[simp] theorem ti_103 : tinfo Try.prog 103 = { ok := true, agg := true, cells := 0, bytes := 0, kind := .array 0 16, zok := true, zero := [] } := by kernel_rfl
@[simp] theorem ti_104 : tinfo Try.prog 104 = { ok := true, agg := true, cells := 0, bytes := 0, kind := .struct [(0, 0, 103)], zok := true, zero := [] } := by kernel_rfl
@[simp] theorem ti_105 : tinfo Try.prog 105 = { ok := true, agg := true, cells := 0, bytes := 0, kind := .struct [(0, 0, 103)], zok := true, zero := [] } := by kernel_rfl
@[simp] theorem ti_106 : tinfo Try.prog 106 = { ok := true, agg := false, cells := 1, bytes := 8, kind := .func, zok := true, zero := [.lit .nilFunc] } := by kernel_rfl
@[simp] theorem ti_107 : tinfo Try.prog 107 = { ok := true, agg := false, cells := 1, bytes := 1, kind := .int .u8, zok := true, zero := [.int .u8 0] } := by kernel_rfl
@[simp] theorem fl_107 : flat Try.prog 50 107 = some [.int] := by kernel_rfl
@[simp] theorem ti_108 : tinfo Try.prog 108 = { ok := true, agg := false, cells := 1, bytes := 1, kind := .int .u8, zok := true, zero := [.int .u8 0] } := by kernel_rfl
@[simp] theorem fl_108 : flat Try.prog 50 108 = some [.int] := by kernel_rfl
@[simp] theorem ti_109 : tinfo Try.prog 109 = { ok := true, agg := false, cells := 1, bytes := 8, kind := .func, zok := true, zero := [.lit .nilFunc] } := by kernel_rfl
@[simp] theorem ti_110 : tinfo Try.prog 110 = { ok := true, agg := false, cells := 1, bytes := 8, kind := .pointer 5, zok := true, zero := [.lit (.pointer none)] } := by kernel_rfl
@[simp] theorem ti_111 : tinfo Try.prog 111 = { ok := true, agg := false, cells := 1, bytes := 4, kind := .int .i32, zok := true, zero := [.int .i32 0] } := by kernel_rfl
@[simp] theorem fl_111 : flat Try.prog 50 111 = some [.int] := by kernel_rfl
@[simp] theorem ti_112 : tinfo Try.prog 112 = { ok := true, agg := false, cells := 1, bytes := 4, kind := .int .i32, zok := true, zero := [.int .i32 0] } := by kernel_rfl
@[simp] theorem fl_112 : flat Try.prog 50 112 = some [.int] := by kernel_rfl
@[simp] theorem ti_113 : tinfo Try.prog 113 = { ok := true, agg := true, cells := 11, bytes := 48, kind := .struct [(0, 1, 12), (1, 1, 12), (2, 1, 89), (3, 1, 107), (4, 1, 5), (5, 1, 5), (6, 1, 108), (7, 1, 109), (8, 1, 110), (9, 1, 111), (10, 1, 112)], zok := true, zero := [.int .u64 0, .int .u64 0, .int .u32 0, .int .u8 0, .int .u8 0, .int .u8 0, .int .u8 0, .lit .nilFunc, .lit (.pointer none), .int .i32 0, .int .i32 0] } := by kernel_rfl
@[simp] theorem ti_114 : tinfo Try.prog 114 = { ok := true, agg := true, cells := 11, bytes := 48, kind := .struct [(0, 1, 12), (1, 1, 12), (2, 1, 89), (3, 1, 107), (4, 1, 5), (5, 1, 5), (6, 1, 108), (7, 1, 109), (8, 1, 110), (9, 1, 111), (10, 1, 112)], zok := true, zero := [.int .u64 0, .int .u64 0, .int .u32 0, .int .u8 0, .int .u8 0, .int .u8 0, .int .u8 0, .lit .nilFunc, .lit (.pointer none), .int .i32 0, .int .i32 0] } := by kernel_rfl
theorem mixed : Try.prog.follows .mixedOrders = true := by kernel_rfl
end Go.Proofs.Ytmdenljmfeejfaa
