/-
  What each type of the translation is, for the abstract logic. Written by a program of ours.
-/
import Derived.Test.YtdmfdgkicbhdoaaProg
import Derived.Test.YtdmfdgkicbhdoaaAbsWp
set_option maxRecDepth 100000
namespace Go.Proofs.Ytdmfdgkicbhdoaa
open Go Go.Abs
@[simp] theorem ti_1 : tinfo Try.prog 1 = { ok := true, agg := false, cells := 1, bytes := 8, kind := .func, zok := true, zero := [.lit .nilFunc] } := by kernel_rfl
@[simp] theorem ti_2 : tinfo Try.prog 2 = { ok := true, agg := false, cells := 1, bytes := 8, kind := .int .i64, zok := true, zero := [.int .i64 0] } := by kernel_rfl
@[simp] theorem fl_2 : flat Try.prog 50 2 = some [.int] := by kernel_rfl
@[simp] theorem ti_3 : tinfo Try.prog 3 = { ok := true, agg := false, cells := 1, bytes := 8, kind := .int .i64, zok := true, zero := [.int .i64 0] } := by kernel_rfl
@[simp] theorem fl_3 : flat Try.prog 50 3 = some [.int] := by kernel_rfl
@[simp] theorem ti_4 : tinfo Try.prog 4 = { ok := true, agg := false, cells := 1, bytes := 1, kind := .bool, zok := true, zero := [.bool false] } := by kernel_rfl
@[simp] theorem fl_4 : flat Try.prog 50 4 = some [.bool] := by kernel_rfl
@[simp] theorem ti_5 : tinfo Try.prog 5 = { ok := true, agg := false, cells := 1, bytes := 1, kind := .int .u8, zok := true, zero := [.int .u8 0] } := by kernel_rfl
@[simp] theorem fl_5 : flat Try.prog 50 5 = some [.int] := by kernel_rfl
@[simp] theorem ti_6 : tinfo Try.prog 6 = { ok := true, agg := false, cells := 1, bytes := 1, kind := .int .u8, zok := true, zero := [.int .u8 0] } := by kernel_rfl
@[simp] theorem fl_6 : flat Try.prog 50 6 = some [.int] := by kernel_rfl
@[simp] theorem ti_7 : tinfo Try.prog 7 = { ok := true, agg := true, cells := 4, bytes := 24, kind := .struct [(0, 1, 2), (1, 1, 3), (2, 1, 4), (3, 1, 6)], zok := true, zero := [.int .i64 0, .int .i64 0, .bool false, .int .u8 0] } := by kernel_rfl
@[simp] theorem ti_8 : tinfo Try.prog 8 = { ok := true, agg := true, cells := 4, bytes := 24, kind := .struct [(0, 1, 2), (1, 1, 3), (2, 1, 4), (3, 1, 6)], zok := true, zero := [.int .i64 0, .int .i64 0, .bool false, .int .u8 0] } := by kernel_rfl
@[simp] theorem ti_9 : tinfo Try.prog 9 = { ok := true, agg := false, cells := 1, bytes := 16, kind := .string, zok := true, zero := [.str []] } := by kernel_rfl
@[simp] theorem fl_9 : flat Try.prog 50 9 = some [.str] := by kernel_rfl
@[simp] theorem ti_10 : tinfo Try.prog 10 = { ok := true, agg := false, cells := 1, bytes := 16, kind := .string, zok := true, zero := [.str []] } := by kernel_rfl
@[simp] theorem fl_10 : flat Try.prog 50 10 = some [.str] := by kernel_rfl
@[simp] theorem ti_11 : tinfo Try.prog 11 = { ok := true, agg := false, cells := 1, bytes := 16, kind := .string, zok := true, zero := [.str []] } := by kernel_rfl
@[simp] theorem fl_11 : flat Try.prog 50 11 = some [.str] := by kernel_rfl
@[simp] theorem ti_12 : tinfo Try.prog 12 = { ok := true, agg := false, cells := 1, bytes := 8, kind := .int .u64, zok := true, zero := [.int .u64 0] } := by kernel_rfl
@[simp] theorem fl_12 : flat Try.prog 50 12 = some [.int] := by kernel_rfl
@[simp] theorem ti_13 : tinfo Try.prog 13 = { ok := true, agg := true, cells := 2, bytes := 24, kind := .struct [(0, 1, 9), (1, 1, 12)], zok := true, zero := [.str [], .int .u64 0] } := by kernel_rfl
@[simp] theorem ti_14 : tinfo Try.prog 14 = { ok := true, agg := true, cells := 2, bytes := 24, kind := .struct [(0, 1, 9), (1, 1, 12)], zok := true, zero := [.str [], .int .u64 0] } := by kernel_rfl
@[simp] theorem ti_15 : tinfo Try.prog 15 = { ok := true, agg := false, cells := 1, bytes := 8, kind := .pointer 157, zok := true, zero := [.lit (.pointer none)] } := by kernel_rfl
@[simp] theorem ti_16 : tinfo Try.prog 16 = { ok := true, agg := false, cells := 1, bytes := 8, kind := .pointer 160, zok := true, zero := [.lit (.pointer none)] } := by kernel_rfl
@[simp] theorem ti_17 : tinfo Try.prog 17 = { ok := true, agg := false, cells := 1, bytes := 8, kind := .pointer 169, zok := true, zero := [.lit (.pointer none)] } := by kernel_rfl
@[simp] theorem ti_18 : tinfo Try.prog 18 = { ok := true, agg := true, cells := 1, bytes := 8, kind := .struct [(0, 1, 17)], zok := true, zero := [.lit (.pointer none)] } := by kernel_rfl
@[simp] theorem ti_19 : tinfo Try.prog 19 = { ok := true, agg := true, cells := 1, bytes := 8, kind := .struct [(0, 1, 17)], zok := true, zero := [.lit (.pointer none)] } := by kernel_rfl
@[simp] theorem ti_20 : tinfo Try.prog 20 = { ok := true, agg := false, cells := 1, bytes := 16, kind := .iface, zok := true, zero := [.lit .nilIface] } := by kernel_rfl
@[simp] theorem ti_21 : tinfo Try.prog 21 = { ok := true, agg := false, cells := 1, bytes := 4, kind := .int .i32, zok := true, zero := [.int .i32 0] } := by kernel_rfl
@[simp] theorem fl_21 : flat Try.prog 50 21 = some [.int] := by kernel_rfl
@[simp] theorem ti_22 : tinfo Try.prog 22 = { ok := true, agg := false, cells := 1, bytes := 24, kind := .slice 48, zok := true, zero := [.nil] } := by kernel_rfl
@[simp] theorem ti_23 : tinfo Try.prog 23 = { ok := true, agg := false, cells := 1, bytes := 24, kind := .slice 86, zok := true, zero := [.nil] } := by kernel_rfl
@[simp] theorem ti_24 : tinfo Try.prog 24 = { ok := true, agg := true, cells := 2, bytes := 48, kind := .struct [(0, 1, 22), (1, 1, 23)], zok := true, zero := [.nil, .nil] } := by kernel_rfl
@[simp] theorem ti_25 : tinfo Try.prog 25 = { ok := true, agg := true, cells := 2, bytes := 48, kind := .struct [(0, 1, 22), (1, 1, 23)], zok := true, zero := [.nil, .nil] } := by kernel_rfl
@[simp] theorem ti_26 : tinfo Try.prog 26 = { ok := true, agg := false, cells := 1, bytes := 24, kind := .slice 52, zok := true, zero := [.nil] } := by kernel_rfl
@[simp] theorem ti_27 : tinfo Try.prog 27 = { ok := true, agg := true, cells := 3, bytes := 72, kind := .struct [(0, 2, 25), (2, 1, 26)], zok := true, zero := [.nil, .nil, .nil] } := by kernel_rfl
@[simp] theorem ti_28 : tinfo Try.prog 28 = { ok := true, agg := true, cells := 3, bytes := 72, kind := .struct [(0, 2, 25), (2, 1, 26)], zok := true, zero := [.nil, .nil, .nil] } := by kernel_rfl
@[simp] theorem ti_29 : tinfo Try.prog 29 = { ok := true, agg := false, cells := 1, bytes := 8, kind := .func, zok := true, zero := [.lit .nilFunc] } := by kernel_rfl
@[simp] theorem ti_30 : tinfo Try.prog 30 = { ok := true, agg := false, cells := 1, bytes := 8, kind := .int .i64, zok := true, zero := [.int .i64 0] } := by kernel_rfl
@[simp] theorem fl_30 : flat Try.prog 50 30 = some [.int] := by kernel_rfl
@[simp] theorem ti_31 : tinfo Try.prog 31 = { ok := true, agg := false, cells := 1, bytes := 8, kind := .func, zok := true, zero := [.lit .nilFunc] } := by kernel_rfl
@[simp] theorem ti_32 : tinfo Try.prog 32 = { ok := true, agg := false, cells := 1, bytes := 8, kind := .func, zok := true, zero := [.lit .nilFunc] } := by kernel_rfl
@[simp] theorem ti_33 : tinfo Try.prog 33 = { ok := true, agg := false, cells := 1, bytes := 8, kind := .func, zok := true, zero := [.lit .nilFunc] } := by kernel_rfl
@[simp] theorem ti_34 : tinfo Try.prog 34 = { ok := true, agg := false, cells := 1, bytes := 24, kind := .slice 171, zok := true, zero := [.nil] } := by kernel_rfl
@[simp] theorem ti_35 : tinfo Try.prog 35 = { ok := true, agg := true, cells := 8, bytes := 112, kind := .struct [(0, 1, 9), (1, 1, 9), (2, 1, 3), (3, 1, 9), (4, 1, 9), (5, 1, 3), (6, 1, 3), (7, 1, 34)], zok := true, zero := [.str [], .str [], .int .i64 0, .str [], .str [], .int .i64 0, .int .i64 0, .nil] } := by kernel_rfl
@[simp] theorem ti_36 : tinfo Try.prog 36 = { ok := true, agg := true, cells := 8, bytes := 112, kind := .struct [(0, 1, 9), (1, 1, 9), (2, 1, 3), (3, 1, 9), (4, 1, 9), (5, 1, 3), (6, 1, 3), (7, 1, 34)], zok := true, zero := [.str [], .str [], .int .i64 0, .str [], .str [], .int .i64 0, .int .i64 0, .nil] } := by kernel_rfl
@[simp] theorem ti_37 : tinfo Try.prog 37 = { ok := true, agg := false, cells := 1, bytes := 24, kind := .slice 44, zok := true, zero := [.nil] } := by kernel_rfl
@[simp] theorem ti_39 : tinfo Try.prog 39 = { ok := true, agg := false, cells := 1, bytes := 8, kind := .func, zok := true, zero := [.lit .nilFunc] } := by kernel_rfl
@[simp] theorem ti_41 : tinfo Try.prog 41 = { ok := true, agg := false, cells := 1, bytes := 8, kind := .func, zok := true, zero := [.lit .nilFunc] } := by kernel_rfl
@[simp] theorem ti_42 : tinfo Try.prog 42 = { ok := true, agg := false, cells := 1, bytes := 8, kind := .func, zok := true, zero := [.lit .nilFunc] } := by kernel_rfl
@[simp] theorem ti_43 : tinfo Try.prog 43 = { ok := true, agg := false, cells := 1, bytes := 8, kind := .func, zok := true, zero := [.lit .nilFunc] } := by kernel_rfl
@[simp] theorem ti_44 : tinfo Try.prog 44 = { ok := true, agg := false, cells := 1, bytes := 24, kind := .slice 9, zok := true, zero := [.nil] } := by kernel_rfl
@[simp] theorem ti_45 : tinfo Try.prog 45 = { ok := true, agg := false, cells := 1, bytes := 8, kind := .func, zok := true, zero := [.lit .nilFunc] } := by kernel_rfl
@[simp] theorem ti_46 : tinfo Try.prog 46 = { ok := true, agg := false, cells := 1, bytes := 8, kind := .func, zok := true, zero := [.lit .nilFunc] } := by kernel_rfl
@[simp] theorem ti_47 : tinfo Try.prog 47 = { ok := true, agg := true, cells := 3, bytes := 40, kind := .struct [(0, 1, 9), (1, 1, 3), (2, 1, 9)], zok := true, zero := [.str [], .int .i64 0, .str []] } := by kernel_rfl
@[simp] theorem fl_47 : flat Try.prog 50 47 = some [.str, .int, .str] := by kernel_rfl
@[simp] theorem eg_47 : Try.prog.eqGuardType Try.prog.depth 47 = false := by kernel_rfl
@[simp] theorem ti_48 : tinfo Try.prog 48 = { ok := true, agg := true, cells := 3, bytes := 40, kind := .struct [(0, 1, 9), (1, 1, 3), (2, 1, 9)], zok := true, zero := [.str [], .int .i64 0, .str []] } := by kernel_rfl
@[simp] theorem fl_48 : flat Try.prog 50 48 = some [.str, .int, .str] := by kernel_rfl
@[simp] theorem eg_48 : Try.prog.eqGuardType Try.prog.depth 48 = false := by kernel_rfl
@[simp] theorem ti_49 : tinfo Try.prog 49 = { ok := true, agg := false, cells := 1, bytes := 8, kind := .func, zok := true, zero := [.lit .nilFunc] } := by kernel_rfl
@[simp] theorem ti_50 : tinfo Try.prog 50 = { ok := true, agg := false, cells := 1, bytes := 8, kind := .func, zok := true, zero := [.lit .nilFunc] } := by kernel_rfl
@[simp] theorem ti_51 : tinfo Try.prog 51 = { ok := true, agg := true, cells := 3, bytes := 32, kind := .struct [(0, 1, 9), (1, 1, 4), (2, 1, 3)], zok := true, zero := [.str [], .bool false, .int .i64 0] } := by kernel_rfl
@[simp] theorem fl_51 : flat Try.prog 50 51 = some [.str, .bool, .int] := by kernel_rfl
@[simp] theorem eg_51 : Try.prog.eqGuardType Try.prog.depth 51 = false := by kernel_rfl
@[simp] theorem ti_52 : tinfo Try.prog 52 = { ok := true, agg := true, cells := 3, bytes := 32, kind := .struct [(0, 1, 9), (1, 1, 4), (2, 1, 3)], zok := true, zero := [.str [], .bool false, .int .i64 0] } := by kernel_rfl
@[simp] theorem fl_52 : flat Try.prog 50 52 = some [.str, .bool, .int] := by kernel_rfl
@[simp] theorem eg_52 : Try.prog.eqGuardType Try.prog.depth 52 = false := by kernel_rfl
@[simp] theorem ti_54 : tinfo Try.prog 54 = { ok := true, agg := false, cells := 1, bytes := 8, kind := .func, zok := true, zero := [.lit .nilFunc] } := by kernel_rfl
@[simp] theorem ti_55 : tinfo Try.prog 55 = { ok := true, agg := false, cells := 1, bytes := 8, kind := .func, zok := true, zero := [.lit .nilFunc] } := by kernel_rfl
@[simp] theorem ti_56 : tinfo Try.prog 56 = { ok := true, agg := false, cells := 1, bytes := 8, kind := .func, zok := true, zero := [.lit .nilFunc] } := by kernel_rfl
@[simp] theorem ti_57 : tinfo Try.prog 57 = { ok := true, agg := false, cells := 1, bytes := 8, kind := .func, zok := true, zero := [.lit .nilFunc] } := by kernel_rfl
@[simp] theorem ti_58 : tinfo Try.prog 58 = { ok := true, agg := false, cells := 1, bytes := 8, kind := .func, zok := true, zero := [.lit .nilFunc] } := by kernel_rfl
@[simp] theorem ti_59 : tinfo Try.prog 59 = { ok := true, agg := false, cells := 1, bytes := 8, kind := .func, zok := true, zero := [.lit .nilFunc] } := by kernel_rfl
@[simp] theorem ti_60 : tinfo Try.prog 60 = { ok := true, agg := false, cells := 1, bytes := 8, kind := .func, zok := true, zero := [.lit .nilFunc] } := by kernel_rfl
@[simp] theorem ti_61 : tinfo Try.prog 61 = { ok := true, agg := false, cells := 1, bytes := 8, kind := .func, zok := true, zero := [.lit .nilFunc] } := by kernel_rfl
@[simp] theorem ti_62 : tinfo Try.prog 62 = { ok := true, agg := false, cells := 1, bytes := 8, kind := .func, zok := true, zero := [.lit .nilFunc] } := by kernel_rfl
@[simp] theorem ti_63 : tinfo Try.prog 63 = { ok := true, agg := false, cells := 1, bytes := 8, kind := .func, zok := true, zero := [.lit .nilFunc] } := by kernel_rfl
@[simp] theorem ti_64 : tinfo Try.prog 64 = { ok := true, agg := false, cells := 1, bytes := 8, kind := .func, zok := true, zero := [.lit .nilFunc] } := by kernel_rfl
@[simp] theorem ti_65 : tinfo Try.prog 65 = { ok := true, agg := false, cells := 1, bytes := 8, kind := .func, zok := true, zero := [.lit .nilFunc] } := by kernel_rfl
@[simp] theorem ti_66 : tinfo Try.prog 66 = { ok := true, agg := false, cells := 1, bytes := 8, kind := .func, zok := true, zero := [.lit .nilFunc] } := by kernel_rfl
@[simp] theorem ti_67 : tinfo Try.prog 67 = { ok := true, agg := false, cells := 1, bytes := 8, kind := .func, zok := true, zero := [.lit .nilFunc] } := by kernel_rfl
@[simp] theorem ti_69 : tinfo Try.prog 69 = { ok := true, agg := false, cells := 1, bytes := 8, kind := .func, zok := true, zero := [.lit .nilFunc] } := by kernel_rfl
@[simp] theorem ti_70 : tinfo Try.prog 70 = { ok := true, agg := false, cells := 1, bytes := 8, kind := .func, zok := true, zero := [.lit .nilFunc] } := by kernel_rfl
@[simp] theorem ti_71 : tinfo Try.prog 71 = { ok := true, agg := false, cells := 1, bytes := 8, kind := .func, zok := true, zero := [.lit .nilFunc] } := by kernel_rfl
@[simp] theorem ti_73 : tinfo Try.prog 73 = { ok := true, agg := false, cells := 1, bytes := 8, kind := .func, zok := true, zero := [.lit .nilFunc] } := by kernel_rfl
@[simp] theorem ti_74 : tinfo Try.prog 74 = { ok := true, agg := false, cells := 1, bytes := 8, kind := .func, zok := true, zero := [.lit .nilFunc] } := by kernel_rfl
@[simp] theorem ti_75 : tinfo Try.prog 75 = { ok := true, agg := false, cells := 1, bytes := 8, kind := .func, zok := true, zero := [.lit .nilFunc] } := by kernel_rfl
@[simp] theorem ti_77 : tinfo Try.prog 77 = { ok := true, agg := false, cells := 1, bytes := 8, kind := .func, zok := true, zero := [.lit .nilFunc] } := by kernel_rfl
@[simp] theorem ti_79 : tinfo Try.prog 79 = { ok := true, agg := false, cells := 1, bytes := 8, kind := .func, zok := true, zero := [.lit .nilFunc] } := by kernel_rfl
@[simp] theorem ti_80 : tinfo Try.prog 80 = { ok := true, agg := false, cells := 1, bytes := 8, kind := .func, zok := true, zero := [.lit .nilFunc] } := by kernel_rfl
@[simp] theorem ti_81 : tinfo Try.prog 81 = { ok := true, agg := false, cells := 1, bytes := 8, kind := .func, zok := true, zero := [.lit .nilFunc] } := by kernel_rfl
@[simp] theorem ti_82 : tinfo Try.prog 82 = { ok := true, agg := false, cells := 1, bytes := 8, kind := .func, zok := true, zero := [.lit .nilFunc] } := by kernel_rfl
@[simp] theorem ti_83 : tinfo Try.prog 83 = { ok := true, agg := false, cells := 1, bytes := 8, kind := .map 9 4, zok := true, zero := [.lit (.map none)] } := by kernel_rfl
@[simp] theorem ti_84 : tinfo Try.prog 84 = { ok := true, agg := false, cells := 1, bytes := 8, kind := .map 87 4, zok := true, zero := [.lit (.map none)] } := by kernel_rfl
@[simp] theorem ti_85 : tinfo Try.prog 85 = { ok := true, agg := true, cells := 4, bytes := 48, kind := .struct [(0, 1, 9), (1, 1, 9), (2, 1, 3), (3, 1, 3)], zok := true, zero := [.str [], .str [], .int .i64 0, .int .i64 0] } := by kernel_rfl
@[simp] theorem fl_85 : flat Try.prog 50 85 = some [.str, .str, .int, .int] := by kernel_rfl
@[simp] theorem eg_85 : Try.prog.eqGuardType Try.prog.depth 85 = false := by kernel_rfl
@[simp] theorem ti_86 : tinfo Try.prog 86 = { ok := true, agg := true, cells := 4, bytes := 48, kind := .struct [(0, 1, 9), (1, 1, 9), (2, 1, 3), (3, 1, 3)], zok := true, zero := [.str [], .str [], .int .i64 0, .int .i64 0] } := by kernel_rfl
@[simp] theorem fl_86 : flat Try.prog 50 86 = some [.str, .str, .int, .int] := by kernel_rfl
@[simp] theorem eg_86 : Try.prog.eqGuardType Try.prog.depth 86 = false := by kernel_rfl
@[simp] theorem ti_87 : tinfo Try.prog 87 = { ok := true, agg := true, cells := 2, bytes := 32, kind := .array 2 9, zok := true, zero := [.str [], .str []] } := by kernel_rfl
@[simp] theorem fl_87 : flat Try.prog 50 87 = some [.str, .str] := by kernel_rfl
@[simp] theorem eg_87 : Try.prog.eqGuardType Try.prog.depth 87 = false := by kernel_rfl
@[simp] theorem ti_88 : tinfo Try.prog 88 = { ok := true, agg := false, cells := 1, bytes := 8, kind := .func, zok := true, zero := [.lit .nilFunc] } := by kernel_rfl
@[simp] theorem ti_89 : tinfo Try.prog 89 = { ok := true, agg := false, cells := 1, bytes := 8, kind := .func, zok := true, zero := [.lit .nilFunc] } := by kernel_rfl
@[simp] theorem ti_90 : tinfo Try.prog 90 = { ok := true, agg := false, cells := 1, bytes := 8, kind := .func, zok := true, zero := [.lit .nilFunc] } := by kernel_rfl
@[simp] theorem ti_91 : tinfo Try.prog 91 = { ok := true, agg := false, cells := 1, bytes := 8, kind := .map 9 3, zok := true, zero := [.lit (.map none)] } := by kernel_rfl
@[simp] theorem ti_92 : tinfo Try.prog 92 = { ok := true, agg := false, cells := 1, bytes := 24, kind := .slice 101, zok := true, zero := [.nil] } := by kernel_rfl
@[simp] theorem ti_93 : tinfo Try.prog 93 = { ok := true, agg := true, cells := 3, bytes := 56, kind := .struct [(0, 1, 44), (1, 1, 91), (2, 1, 92)], zok := true, zero := [.nil, .lit (.map none), .nil] } := by kernel_rfl
@[simp] theorem ti_94 : tinfo Try.prog 94 = { ok := true, agg := true, cells := 3, bytes := 56, kind := .struct [(0, 1, 44), (1, 1, 91), (2, 1, 92)], zok := true, zero := [.nil, .lit (.map none), .nil] } := by kernel_rfl
@[simp] theorem ti_95 : tinfo Try.prog 95 = { ok := true, agg := false, cells := 1, bytes := 8, kind := .func, zok := true, zero := [.lit .nilFunc] } := by kernel_rfl
@[simp] theorem ti_97 : tinfo Try.prog 97 = { ok := true, agg := false, cells := 1, bytes := 8, kind := .func, zok := true, zero := [.lit .nilFunc] } := by kernel_rfl
@[simp] theorem ti_98 : tinfo Try.prog 98 = { ok := true, agg := false, cells := 1, bytes := 24, kind := .slice 4, zok := true, zero := [.nil] } := by kernel_rfl
@[simp] theorem ti_99 : tinfo Try.prog 99 = { ok := true, agg := false, cells := 1, bytes := 8, kind := .func, zok := true, zero := [.lit .nilFunc] } := by kernel_rfl
@[simp] theorem ti_100 : tinfo Try.prog 100 = { ok := true, agg := false, cells := 1, bytes := 8, kind := .func, zok := true, zero := [.lit .nilFunc] } := by kernel_rfl
@[simp] theorem ti_101 : tinfo Try.prog 101 = { ok := true, agg := false, cells := 1, bytes := 24, kind := .slice 103, zok := true, zero := [.nil] } := by kernel_rfl
@[simp] theorem ti_102 : tinfo Try.prog 102 = { ok := true, agg := true, cells := 3, bytes := 24, kind := .struct [(0, 1, 3), (1, 1, 3), (2, 1, 3)], zok := true, zero := [.int .i64 0, .int .i64 0, .int .i64 0] } := by kernel_rfl
@[simp] theorem fl_102 : flat Try.prog 50 102 = some [.int, .int, .int] := by kernel_rfl
@[simp] theorem eg_102 : Try.prog.eqGuardType Try.prog.depth 102 = false := by kernel_rfl
@[simp] theorem ti_103 : tinfo Try.prog 103 = { ok := true, agg := true, cells := 3, bytes := 24, kind := .struct [(0, 1, 3), (1, 1, 3), (2, 1, 3)], zok := true, zero := [.int .i64 0, .int .i64 0, .int .i64 0] } := by kernel_rfl
@[simp] theorem fl_103 : flat Try.prog 50 103 = some [.int, .int, .int] := by kernel_rfl
@[simp] theorem eg_103 : Try.prog.eqGuardType Try.prog.depth 103 = false := by kernel_rfl
@[simp] theorem ti_104 : tinfo Try.prog 104 = { ok := true, agg := false, cells := 1, bytes := 8, kind := .func, zok := true, zero := [.lit .nilFunc] } := by kernel_rfl
@[simp] theorem ti_106 : tinfo Try.prog 106 = { ok := true, agg := false, cells := 1, bytes := 8, kind := .func, zok := true, zero := [.lit .nilFunc] } := by kernel_rfl
@[simp] theorem ti_107 : tinfo Try.prog 107 = { ok := true, agg := false, cells := 1, bytes := 8, kind := .func, zok := true, zero := [.lit .nilFunc] } := by kernel_rfl
@[simp] theorem ti_108 : tinfo Try.prog 108 = { ok := true, agg := false, cells := 1, bytes := 8, kind := .func, zok := true, zero := [.lit .nilFunc] } := by kernel_rfl
@[simp] theorem ti_109 : tinfo Try.prog 109 = { ok := true, agg := false, cells := 1, bytes := 8, kind := .func, zok := true, zero := [.lit .nilFunc] } := by kernel_rfl
@[simp] theorem ti_110 : tinfo Try.prog 110 = { ok := true, agg := false, cells := 1, bytes := 24, kind := .slice 113, zok := true, zero := [.nil] } := by kernel_rfl
@[simp] theorem ti_111 : tinfo Try.prog 111 = { ok := true, agg := false, cells := 1, bytes := 8, kind := .func, zok := true, zero := [.lit .nilFunc] } := by kernel_rfl
@[simp] theorem ti_112 : tinfo Try.prog 112 = { ok := true, agg := true, cells := 2, bytes := 16, kind := .struct [(0, 1, 3), (1, 1, 3)], zok := true, zero := [.int .i64 0, .int .i64 0] } := by kernel_rfl
@[simp] theorem fl_112 : flat Try.prog 50 112 = some [.int, .int] := by kernel_rfl
@[simp] theorem eg_112 : Try.prog.eqGuardType Try.prog.depth 112 = false := by kernel_rfl
@[simp] theorem ti_113 : tinfo Try.prog 113 = { ok := true, agg := true, cells := 2, bytes := 16, kind := .struct [(0, 1, 3), (1, 1, 3)], zok := true, zero := [.int .i64 0, .int .i64 0] } := by kernel_rfl
@[simp] theorem fl_113 : flat Try.prog 50 113 = some [.int, .int] := by kernel_rfl
@[simp] theorem eg_113 : Try.prog.eqGuardType Try.prog.depth 113 = false := by kernel_rfl
@[simp] theorem ti_114 : tinfo Try.prog 114 = { ok := true, agg := false, cells := 1, bytes := 8, kind := .func, zok := true, zero := [.lit .nilFunc] } := by kernel_rfl
@[simp] theorem ti_115 : tinfo Try.prog 115 = { ok := true, agg := false, cells := 1, bytes := 8, kind := .func, zok := true, zero := [.lit .nilFunc] } := by kernel_rfl
@[simp] theorem ti_116 : tinfo Try.prog 116 = { ok := true, agg := false, cells := 1, bytes := 8, kind := .int .u64, zok := true, zero := [.int .u64 0] } := by kernel_rfl
@[simp] theorem fl_116 : flat Try.prog 50 116 = some [.int] := by kernel_rfl
@[simp] theorem ti_117 : tinfo Try.prog 117 = { ok := true, agg := false, cells := 1, bytes := 8, kind := .func, zok := true, zero := [.lit .nilFunc] } := by kernel_rfl
@[simp] theorem ti_118 : tinfo Try.prog 118 = { ok := true, agg := false, cells := 1, bytes := 8, kind := .func, zok := true, zero := [.lit .nilFunc] } := by kernel_rfl
@[simp] theorem ti_119 : tinfo Try.prog 119 = { ok := true, agg := false, cells := 1, bytes := 8, kind := .func, zok := true, zero := [.lit .nilFunc] } := by kernel_rfl
@[simp] theorem ti_120 : tinfo Try.prog 120 = { ok := true, agg := false, cells := 1, bytes := 24, kind := .slice 3, zok := true, zero := [.nil] } := by kernel_rfl
@[simp] theorem ti_121 : tinfo Try.prog 121 = { ok := true, agg := false, cells := 1, bytes := 8, kind := .func, zok := true, zero := [.lit .nilFunc] } := by kernel_rfl
@[simp] theorem ti_122 : tinfo Try.prog 122 = { ok := true, agg := false, cells := 1, bytes := 8, kind := .func, zok := true, zero := [.lit .nilFunc] } := by kernel_rfl
@[simp] theorem ti_123 : tinfo Try.prog 123 = { ok := true, agg := false, cells := 1, bytes := 8, kind := .func, zok := true, zero := [.lit .nilFunc] } := by kernel_rfl
@[simp] theorem ti_124 : tinfo Try.prog 124 = { ok := true, agg := false, cells := 1, bytes := 8, kind := .func, zok := true, zero := [.lit .nilFunc] } := by kernel_rfl
@[simp] theorem ti_125 : tinfo Try.prog 125 = { ok := true, agg := false, cells := 1, bytes := 8, kind := .func, zok := true, zero := [.lit .nilFunc] } := by kernel_rfl
@[simp] theorem ti_126 : tinfo Try.prog 126 = { ok := true, agg := false, cells := 1, bytes := 8, kind := .int .i64, zok := true, zero := [.int .i64 0] } := by kernel_rfl
@[simp] theorem fl_126 : flat Try.prog 50 126 = some [.int] := by kernel_rfl
@[simp] theorem ti_128 : tinfo Try.prog 128 = { ok := true, agg := false, cells := 1, bytes := 8, kind := .func, zok := true, zero := [.lit .nilFunc] } := by kernel_rfl
@[simp] theorem ti_129 : tinfo Try.prog 129 = { ok := true, agg := false, cells := 1, bytes := 8, kind := .func, zok := true, zero := [.lit .nilFunc] } := by kernel_rfl
@[simp] theorem ti_130 : tinfo Try.prog 130 = { ok := true, agg := false, cells := 1, bytes := 8, kind := .func, zok := true, zero := [.lit .nilFunc] } := by kernel_rfl
@[simp] theorem ti_131 : tinfo Try.prog 131 = { ok := true, agg := false, cells := 1, bytes := 8, kind := .func, zok := true, zero := [.lit .nilFunc] } := by kernel_rfl
@[simp] theorem ti_132 : tinfo Try.prog 132 = { ok := true, agg := false, cells := 1, bytes := 8, kind := .func, zok := true, zero := [.lit .nilFunc] } := by kernel_rfl
@[simp] theorem ti_133 : tinfo Try.prog 133 = { ok := true, agg := false, cells := 1, bytes := 4, kind := .int .u32, zok := true, zero := [.int .u32 0] } := by kernel_rfl
@[simp] theorem fl_133 : flat Try.prog 50 133 = some [.int] := by kernel_rfl
@[simp] theorem ti_134 : tinfo Try.prog 134 = { ok := true, agg := false, cells := 1, bytes := 8, kind := .func, zok := true, zero := [.lit .nilFunc] } := by kernel_rfl
@[simp] theorem ti_135 : tinfo Try.prog 135 = { ok := true, agg := false, cells := 1, bytes := 8, kind := .int .u64, zok := true, zero := [.int .u64 0] } := by kernel_rfl
@[simp] theorem fl_135 : flat Try.prog 50 135 = some [.int] := by kernel_rfl
@[simp] theorem ti_136 : tinfo Try.prog 136 = { ok := true, agg := false, cells := 1, bytes := 8, kind := .func, zok := true, zero := [.lit .nilFunc] } := by kernel_rfl
@[simp] theorem ti_137 : tinfo Try.prog 137 = { ok := true, agg := false, cells := 1, bytes := 8, kind := .func, zok := true, zero := [.lit .nilFunc] } := by kernel_rfl
@[simp] theorem ti_138 : tinfo Try.prog 138 = { ok := true, agg := false, cells := 1, bytes := 8, kind := .int .u64, zok := true, zero := [.int .u64 0] } := by kernel_rfl
@[simp] theorem fl_138 : flat Try.prog 50 138 = some [.int] := by kernel_rfl
@[simp] theorem ti_139 : tinfo Try.prog 139 = { ok := true, agg := false, cells := 1, bytes := 8, kind := .func, zok := true, zero := [.lit .nilFunc] } := by kernel_rfl
@[simp] theorem ti_140 : tinfo Try.prog 140 = { ok := true, agg := false, cells := 1, bytes := 8, kind := .func, zok := true, zero := [.lit .nilFunc] } := by kernel_rfl
@[simp] theorem ti_141 : tinfo Try.prog 141 = { ok := true, agg := false, cells := 1, bytes := 8, kind := .func, zok := true, zero := [.lit .nilFunc] } := by kernel_rfl
@[simp] theorem ti_142 : tinfo Try.prog 142 = { ok := true, agg := false, cells := 1, bytes := 8, kind := .pointer 3, zok := true, zero := [.lit (.pointer none)] } := by kernel_rfl
@[simp] theorem ti_143 : tinfo Try.prog 143 = { ok := true, agg := false, cells := 1, bytes := 8, kind := .func, zok := true, zero := [.lit .nilFunc] } := by kernel_rfl
@[simp] theorem ti_144 : tinfo Try.prog 144 = { ok := true, agg := false, cells := 1, bytes := 8, kind := .func, zok := true, zero := [.lit .nilFunc] } := by kernel_rfl
@[simp] theorem ti_145 : tinfo Try.prog 145 = { ok := true, agg := false, cells := 1, bytes := 8, kind := .func, zok := true, zero := [.lit .nilFunc] } := by kernel_rfl
@[simp] theorem ti_146 : tinfo Try.prog 146 = { ok := true, agg := false, cells := 1, bytes := 8, kind := .func, zok := true, zero := [.lit .nilFunc] } := by kernel_rfl
@[simp] theorem ti_147 : tinfo Try.prog 147 = { ok := true, agg := false, cells := 1, bytes := 8, kind := .func, zok := true, zero := [.lit .nilFunc] } := by kernel_rfl
@[simp] theorem ti_148 : tinfo Try.prog 148 = { ok := true, agg := false, cells := 1, bytes := 8, kind := .func, zok := true, zero := [.lit .nilFunc] } := by kernel_rfl
@[simp] theorem ti_149 : tinfo Try.prog 149 = { ok := true, agg := false, cells := 1, bytes := 8, kind := .pointer 138, zok := true, zero := [.lit (.pointer none)] } := by kernel_rfl
@[simp] theorem ti_151 : tinfo Try.prog 151 = { ok := true, agg := false, cells := 1, bytes := 8, kind := .func, zok := true, zero := [.lit .nilFunc] } := by kernel_rfl
@[simp] theorem ti_152 : tinfo Try.prog 152 = { ok := true, agg := false, cells := 1, bytes := 8, kind := .func, zok := true, zero := [.lit .nilFunc] } := by kernel_rfl
@[simp] theorem ti_153 : tinfo Try.prog 153 = { ok := true, agg := false, cells := 1, bytes := 8, kind := .func, zok := true, zero := [.lit .nilFunc] } := by kernel_rfl
@[simp] theorem ti_154 : tinfo Try.prog 154 = { ok := true, agg := false, cells := 1, bytes := 8, kind := .func, zok := true, zero := [.lit .nilFunc] } := by kernel_rfl
@[simp] theorem ti_155 : tinfo Try.prog 155 = { ok := true, agg := false, cells := 1, bytes := 8, kind := .func, zok := true, zero := [.lit .nilFunc] } := by kernel_rfl
@[simp] theorem ti_156 : tinfo Try.prog 156 = { ok := true, agg := true, cells := 4, bytes := 40, kind := .struct [(0, 1, 17), (1, 1, 17), (2, 1, 17), (3, 1, 9)], zok := true, zero := [.lit (.pointer none), .lit (.pointer none), .lit (.pointer none), .str []] } := by kernel_rfl
@[simp] theorem ti_157 : tinfo Try.prog 157 = { ok := true, agg := true, cells := 4, bytes := 40, kind := .struct [(0, 1, 17), (1, 1, 17), (2, 1, 17), (3, 1, 9)], zok := true, zero := [.lit (.pointer none), .lit (.pointer none), .lit (.pointer none), .str []] } := by kernel_rfl
@[simp] theorem ti_158 : tinfo Try.prog 158 = { ok := true, agg := true, cells := 0, bytes := 0, kind := .array 0 16, zok := true, zero := [] } := by kernel_rfl
@[simp] theorem ti_159 : tinfo Try.prog 159 = { ok := true, agg := true, cells := 0, bytes := 0, kind := .struct [(0, 0, 158)], zok := true, zero := [] } := by kernel_rfl
@[simp] theorem ti_160 : tinfo Try.prog 160 = { ok := true, agg := true, cells := 0, bytes := 0, kind := .struct [(0, 0, 158)], zok := true, zero := [] } := by kernel_rfl
@[simp] theorem ti_161 : tinfo Try.prog 161 = { ok := true, agg := false, cells := 1, bytes := 8, kind := .func, zok := true, zero := [.lit .nilFunc] } := by kernel_rfl
@[simp] theorem ti_162 : tinfo Try.prog 162 = { ok := true, agg := false, cells := 1, bytes := 1, kind := .int .u8, zok := true, zero := [.int .u8 0] } := by kernel_rfl
@[simp] theorem fl_162 : flat Try.prog 50 162 = some [.int] := by kernel_rfl
@[simp] theorem ti_163 : tinfo Try.prog 163 = { ok := true, agg := false, cells := 1, bytes := 1, kind := .int .u8, zok := true, zero := [.int .u8 0] } := by kernel_rfl
@[simp] theorem fl_163 : flat Try.prog 50 163 = some [.int] := by kernel_rfl
@[simp] theorem ti_164 : tinfo Try.prog 164 = { ok := true, agg := false, cells := 1, bytes := 8, kind := .func, zok := true, zero := [.lit .nilFunc] } := by kernel_rfl
@[simp] theorem ti_165 : tinfo Try.prog 165 = { ok := true, agg := false, cells := 1, bytes := 8, kind := .pointer 5, zok := true, zero := [.lit (.pointer none)] } := by kernel_rfl
@[simp] theorem ti_166 : tinfo Try.prog 166 = { ok := true, agg := false, cells := 1, bytes := 4, kind := .int .i32, zok := true, zero := [.int .i32 0] } := by kernel_rfl
@[simp] theorem fl_166 : flat Try.prog 50 166 = some [.int] := by kernel_rfl
@[simp] theorem ti_167 : tinfo Try.prog 167 = { ok := true, agg := false, cells := 1, bytes := 4, kind := .int .i32, zok := true, zero := [.int .i32 0] } := by kernel_rfl
@[simp] theorem fl_167 : flat Try.prog 50 167 = some [.int] := by kernel_rfl
@[simp] theorem ti_168 : tinfo Try.prog 168 = { ok := true, agg := true, cells := 11, bytes := 48, kind := .struct [(0, 1, 12), (1, 1, 12), (2, 1, 133), (3, 1, 162), (4, 1, 5), (5, 1, 5), (6, 1, 163), (7, 1, 164), (8, 1, 165), (9, 1, 166), (10, 1, 167)], zok := true, zero := [.int .u64 0, .int .u64 0, .int .u32 0, .int .u8 0, .int .u8 0, .int .u8 0, .int .u8 0, .lit .nilFunc, .lit (.pointer none), .int .i32 0, .int .i32 0] } := by kernel_rfl
@[simp] theorem ti_169 : tinfo Try.prog 169 = { ok := true, agg := true, cells := 11, bytes := 48, kind := .struct [(0, 1, 12), (1, 1, 12), (2, 1, 133), (3, 1, 162), (4, 1, 5), (5, 1, 5), (6, 1, 163), (7, 1, 164), (8, 1, 165), (9, 1, 166), (10, 1, 167)], zok := true, zero := [.int .u64 0, .int .u64 0, .int .u32 0, .int .u8 0, .int .u8 0, .int .u8 0, .int .u8 0, .lit .nilFunc, .lit (.pointer none), .int .i32 0, .int .i32 0] } := by kernel_rfl
@[simp] theorem ti_170 : tinfo Try.prog 170 = { ok := true, agg := true, cells := 2, bytes := 24, kind := .struct [(0, 1, 9), (1, 1, 3)], zok := true, zero := [.str [], .int .i64 0] } := by kernel_rfl
@[simp] theorem fl_170 : flat Try.prog 50 170 = some [.str, .int] := by kernel_rfl
@[simp] theorem eg_170 : Try.prog.eqGuardType Try.prog.depth 170 = false := by kernel_rfl
@[simp] theorem ti_171 : tinfo Try.prog 171 = { ok := true, agg := true, cells := 2, bytes := 24, kind := .struct [(0, 1, 9), (1, 1, 3)], zok := true, zero := [.str [], .int .i64 0] } := by kernel_rfl
@[simp] theorem fl_171 : flat Try.prog 50 171 = some [.str, .int] := by kernel_rfl
@[simp] theorem eg_171 : Try.prog.eqGuardType Try.prog.depth 171 = false := by kernel_rfl
theorem mixed : Try.prog.follows .mixedOrders = true := by kernel_rfl
end Go.Proofs.Ytdmfdgkicbhdoaa
