/-
  What each type of the translation is, for the abstract logic. Written by a program of ours.
-/
import Derived.Test.YtjdchnbjegddhaaProg
import Derived.Test.YtjdchnbjegddhaaAbsWp
set_option maxRecDepth 100000
namespace Go.Proofs.Ytjdchnbjegddhaa
open Go Go.Abs
@[simp] theorem ti_1 : tinfo Try.prog 1 = { ok := true, agg := false, cells := 1, bytes := 8, kind := .func, zok := true, zero := [.lit .nilFunc] } := by kernel_rfl
@[simp] theorem ti_2 : tinfo Try.prog 2 = { ok := true, agg := false, cells := 1, bytes := 8, kind := .int .i64, zok := true, zero := [.int .i64 0] } := by kernel_rfl
@[simp] theorem fl_2 : flat Try.prog 50 2 = some [.int] := by kernel_rfl
@[simp] theorem ti_3 : tinfo Try.prog 3 = { ok := true, agg := false, cells := 1, bytes := 8, kind := .int .i64, zok := true, zero := [.int .i64 0] } := by kernel_rfl
@[simp] theorem fl_3 : flat Try.prog 50 3 = some [.int] := by kernel_rfl
@[simp] theorem ti_4 : tinfo Try.prog 4 = { ok := true, agg := false, cells := 1, bytes := 1, kind := .bool, zok := true, zero := [.bool false] } := by kernel_rfl
@[simp] theorem fl_4 : flat Try.prog 50 4 = some [.bool] := by kernel_rfl
@[simp] theorem ti_5 : tinfo Try.prog 5 = { ok := true, agg := false, cells := 1, bytes := 1, kind := .int .u8, zok := true, zero := [.int .u8 0] } := by kernel_rfl
@[simp] theorem fl_5 : flat Try.prog 50 5 = some [.int] := by kernel_rfl
@[simp] theorem ti_6 : tinfo Try.prog 6 = { ok := true, agg := false, cells := 1, bytes := 1, kind := .int .u8, zok := true, zero := [.int .u8 0] } := by kernel_rfl
@[simp] theorem fl_6 : flat Try.prog 50 6 = some [.int] := by kernel_rfl
@[simp] theorem ti_7 : tinfo Try.prog 7 = { ok := true, agg := true, cells := 4, bytes := 24, kind := .struct [(0, 1, 2), (1, 1, 3), (2, 1, 4), (3, 1, 6)], zok := true, zero := [.int .i64 0, .int .i64 0, .bool false, .int .u8 0] } := by kernel_rfl
@[simp] theorem ti_8 : tinfo Try.prog 8 = { ok := true, agg := true, cells := 4, bytes := 24, kind := .struct [(0, 1, 2), (1, 1, 3), (2, 1, 4), (3, 1, 6)], zok := true, zero := [.int .i64 0, .int .i64 0, .bool false, .int .u8 0] } := by kernel_rfl
@[simp] theorem ti_9 : tinfo Try.prog 9 = { ok := true, agg := false, cells := 1, bytes := 16, kind := .string, zok := true, zero := [.str []] } := by kernel_rfl
@[simp] theorem fl_9 : flat Try.prog 50 9 = some [.str] := by kernel_rfl
@[simp] theorem ti_10 : tinfo Try.prog 10 = { ok := true, agg := false, cells := 1, bytes := 16, kind := .string, zok := true, zero := [.str []] } := by kernel_rfl
@[simp] theorem fl_10 : flat Try.prog 50 10 = some [.str] := by kernel_rfl
@[simp] theorem ti_11 : tinfo Try.prog 11 = { ok := true, agg := false, cells := 1, bytes := 16, kind := .string, zok := true, zero := [.str []] } := by kernel_rfl
@[simp] theorem fl_11 : flat Try.prog 50 11 = some [.str] := by kernel_rfl
@[simp] theorem ti_12 : tinfo Try.prog 12 = { ok := true, agg := false, cells := 1, bytes := 8, kind := .int .u64, zok := true, zero := [.int .u64 0] } := by kernel_rfl
@[simp] theorem fl_12 : flat Try.prog 50 12 = some [.int] := by kernel_rfl
@[simp] theorem ti_13 : tinfo Try.prog 13 = { ok := true, agg := true, cells := 2, bytes := 24, kind := .struct [(0, 1, 9), (1, 1, 12)], zok := true, zero := [.str [], .int .u64 0] } := by kernel_rfl
@[simp] theorem ti_14 : tinfo Try.prog 14 = { ok := true, agg := true, cells := 2, bytes := 24, kind := .struct [(0, 1, 9), (1, 1, 12)], zok := true, zero := [.str [], .int .u64 0] } := by kernel_rfl
@[simp] theorem ti_15 : tinfo Try.prog 15 = { ok := true, agg := false, cells := 1, bytes := 8, kind := .pointer 161, zok := true, zero := [.lit (.pointer none)] } := by kernel_rfl
@[simp] theorem ti_16 : tinfo Try.prog 16 = { ok := true, agg := false, cells := 1, bytes := 8, kind := .pointer 164, zok := true, zero := [.lit (.pointer none)] } := by kernel_rfl
@[simp] theorem ti_17 : tinfo Try.prog 17 = { ok := true, agg := false, cells := 1, bytes := 8, kind := .pointer 173, zok := true, zero := [.lit (.pointer none)] } := by kernel_rfl
@[simp] theorem ti_18 : tinfo Try.prog 18 = { ok := true, agg := true, cells := 1, bytes := 8, kind := .struct [(0, 1, 17)], zok := true, zero := [.lit (.pointer none)] } := by kernel_rfl
@[simp] theorem ti_19 : tinfo Try.prog 19 = { ok := true, agg := true, cells := 1, bytes := 8, kind := .struct [(0, 1, 17)], zok := true, zero := [.lit (.pointer none)] } := by kernel_rfl
@[simp] theorem ti_20 : tinfo Try.prog 20 = { ok := true, agg := false, cells := 1, bytes := 16, kind := .iface, zok := true, zero := [.lit .nilIface] } := by kernel_rfl
@[simp] theorem ti_21 : tinfo Try.prog 21 = { ok := true, agg := false, cells := 1, bytes := 4, kind := .int .i32, zok := true, zero := [.int .i32 0] } := by kernel_rfl
@[simp] theorem fl_21 : flat Try.prog 50 21 = some [.int] := by kernel_rfl
@[simp] theorem ti_22 : tinfo Try.prog 22 = { ok := true, agg := false, cells := 1, bytes := 24, kind := .slice 56, zok := true, zero := [.nil] } := by kernel_rfl
@[simp] theorem ti_23 : tinfo Try.prog 23 = { ok := true, agg := false, cells := 1, bytes := 24, kind := .slice 58, zok := true, zero := [.nil] } := by kernel_rfl
@[simp] theorem ti_24 : tinfo Try.prog 24 = { ok := true, agg := true, cells := 2, bytes := 48, kind := .struct [(0, 1, 22), (1, 1, 23)], zok := true, zero := [.nil, .nil] } := by kernel_rfl
@[simp] theorem ti_25 : tinfo Try.prog 25 = { ok := true, agg := true, cells := 2, bytes := 48, kind := .struct [(0, 1, 22), (1, 1, 23)], zok := true, zero := [.nil, .nil] } := by kernel_rfl
@[simp] theorem ti_26 : tinfo Try.prog 26 = { ok := true, agg := false, cells := 1, bytes := 24, kind := .slice 67, zok := true, zero := [.nil] } := by kernel_rfl
@[simp] theorem ti_27 : tinfo Try.prog 27 = { ok := true, agg := true, cells := 3, bytes := 72, kind := .struct [(0, 2, 25), (2, 1, 26)], zok := true, zero := [.nil, .nil, .nil] } := by kernel_rfl
@[simp] theorem ti_28 : tinfo Try.prog 28 = { ok := true, agg := true, cells := 3, bytes := 72, kind := .struct [(0, 2, 25), (2, 1, 26)], zok := true, zero := [.nil, .nil, .nil] } := by kernel_rfl
@[simp] theorem ti_29 : tinfo Try.prog 29 = { ok := true, agg := false, cells := 1, bytes := 24, kind := .slice 48, zok := true, zero := [.nil] } := by kernel_rfl
@[simp] theorem ti_30 : tinfo Try.prog 30 = { ok := true, agg := false, cells := 1, bytes := 8, kind := .func, zok := true, zero := [.lit .nilFunc] } := by kernel_rfl
@[simp] theorem ti_31 : tinfo Try.prog 31 = { ok := true, agg := false, cells := 1, bytes := 8, kind := .func, zok := true, zero := [.lit .nilFunc] } := by kernel_rfl
@[simp] theorem ti_32 : tinfo Try.prog 32 = { ok := true, agg := false, cells := 1, bytes := 24, kind := .slice 35, zok := true, zero := [.nil] } := by kernel_rfl
@[simp] theorem ti_33 : tinfo Try.prog 33 = { ok := true, agg := false, cells := 1, bytes := 8, kind := .func, zok := true, zero := [.lit .nilFunc] } := by kernel_rfl
@[simp] theorem ti_34 : tinfo Try.prog 34 = { ok := true, agg := false, cells := 1, bytes := 8, kind := .func, zok := true, zero := [.lit .nilFunc] } := by kernel_rfl
@[simp] theorem ti_35 : tinfo Try.prog 35 = { ok := true, agg := false, cells := 1, bytes := 24, kind := .slice 3, zok := true, zero := [.nil] } := by kernel_rfl
@[simp] theorem ti_36 : tinfo Try.prog 36 = { ok := true, agg := false, cells := 1, bytes := 24, kind := .slice 51, zok := true, zero := [.nil] } := by kernel_rfl
@[simp] theorem ti_38 : tinfo Try.prog 38 = { ok := true, agg := false, cells := 1, bytes := 8, kind := .func, zok := true, zero := [.lit .nilFunc] } := by kernel_rfl
@[simp] theorem ti_39 : tinfo Try.prog 39 = { ok := true, agg := false, cells := 1, bytes := 8, kind := .func, zok := true, zero := [.lit .nilFunc] } := by kernel_rfl
@[simp] theorem ti_40 : tinfo Try.prog 40 = { ok := true, agg := false, cells := 1, bytes := 8, kind := .func, zok := true, zero := [.lit .nilFunc] } := by kernel_rfl
@[simp] theorem ti_41 : tinfo Try.prog 41 = { ok := true, agg := false, cells := 1, bytes := 8, kind := .func, zok := true, zero := [.lit .nilFunc] } := by kernel_rfl
@[simp] theorem ti_42 : tinfo Try.prog 42 = { ok := true, agg := false, cells := 1, bytes := 24, kind := .slice 29, zok := true, zero := [.nil] } := by kernel_rfl
@[simp] theorem ti_43 : tinfo Try.prog 43 = { ok := true, agg := false, cells := 1, bytes := 8, kind := .func, zok := true, zero := [.lit .nilFunc] } := by kernel_rfl
@[simp] theorem ti_44 : tinfo Try.prog 44 = { ok := true, agg := false, cells := 1, bytes := 8, kind := .func, zok := true, zero := [.lit .nilFunc] } := by kernel_rfl
@[simp] theorem ti_45 : tinfo Try.prog 45 = { ok := true, agg := false, cells := 1, bytes := 2, kind := .int .u16, zok := true, zero := [.int .u16 0] } := by kernel_rfl
@[simp] theorem fl_45 : flat Try.prog 50 45 = some [.int] := by kernel_rfl
@[simp] theorem ti_46 : tinfo Try.prog 46 = { ok := true, agg := false, cells := 1, bytes := 24, kind := .slice 123, zok := true, zero := [.nil] } := by kernel_rfl
@[simp] theorem ti_47 : tinfo Try.prog 47 = { ok := true, agg := true, cells := 8, bytes := 112, kind := .struct [(0, 1, 9), (1, 1, 9), (2, 1, 3), (3, 1, 9), (4, 1, 9), (5, 1, 3), (6, 1, 3), (7, 1, 46)], zok := true, zero := [.str [], .str [], .int .i64 0, .str [], .str [], .int .i64 0, .int .i64 0, .nil] } := by kernel_rfl
@[simp] theorem ti_48 : tinfo Try.prog 48 = { ok := true, agg := true, cells := 8, bytes := 112, kind := .struct [(0, 1, 9), (1, 1, 9), (2, 1, 3), (3, 1, 9), (4, 1, 9), (5, 1, 3), (6, 1, 3), (7, 1, 46)], zok := true, zero := [.str [], .str [], .int .i64 0, .str [], .str [], .int .i64 0, .int .i64 0, .nil] } := by kernel_rfl
@[simp] theorem ti_49 : tinfo Try.prog 49 = { ok := true, agg := false, cells := 1, bytes := 8, kind := .func, zok := true, zero := [.lit .nilFunc] } := by kernel_rfl
@[simp] theorem ti_50 : tinfo Try.prog 50 = { ok := true, agg := true, cells := 2, bytes := 24, kind := .struct [(0, 1, 9), (1, 1, 3)], zok := true, zero := [.str [], .int .i64 0] } := by kernel_rfl
@[simp] theorem fl_50 : flat Try.prog 50 50 = some [.str, .int] := by kernel_rfl
@[simp] theorem eg_50 : Try.prog.eqGuardType Try.prog.depth 50 = false := by kernel_rfl
@[simp] theorem ti_51 : tinfo Try.prog 51 = { ok := true, agg := true, cells := 2, bytes := 24, kind := .struct [(0, 1, 9), (1, 1, 3)], zok := true, zero := [.str [], .int .i64 0] } := by kernel_rfl
@[simp] theorem fl_51 : flat Try.prog 50 51 = some [.str, .int] := by kernel_rfl
@[simp] theorem eg_51 : Try.prog.eqGuardType Try.prog.depth 51 = false := by kernel_rfl
@[simp] theorem ti_52 : tinfo Try.prog 52 = { ok := true, agg := false, cells := 1, bytes := 8, kind := .func, zok := true, zero := [.lit .nilFunc] } := by kernel_rfl
@[simp] theorem ti_53 : tinfo Try.prog 53 = { ok := true, agg := false, cells := 1, bytes := 8, kind := .func, zok := true, zero := [.lit .nilFunc] } := by kernel_rfl
@[simp] theorem ti_54 : tinfo Try.prog 54 = { ok := true, agg := false, cells := 1, bytes := 8, kind := .func, zok := true, zero := [.lit .nilFunc] } := by kernel_rfl
@[simp] theorem ti_55 : tinfo Try.prog 55 = { ok := true, agg := true, cells := 3, bytes := 40, kind := .struct [(0, 1, 9), (1, 1, 3), (2, 1, 9)], zok := true, zero := [.str [], .int .i64 0, .str []] } := by kernel_rfl
@[simp] theorem fl_55 : flat Try.prog 50 55 = some [.str, .int, .str] := by kernel_rfl
@[simp] theorem eg_55 : Try.prog.eqGuardType Try.prog.depth 55 = false := by kernel_rfl
@[simp] theorem ti_56 : tinfo Try.prog 56 = { ok := true, agg := true, cells := 3, bytes := 40, kind := .struct [(0, 1, 9), (1, 1, 3), (2, 1, 9)], zok := true, zero := [.str [], .int .i64 0, .str []] } := by kernel_rfl
@[simp] theorem fl_56 : flat Try.prog 50 56 = some [.str, .int, .str] := by kernel_rfl
@[simp] theorem eg_56 : Try.prog.eqGuardType Try.prog.depth 56 = false := by kernel_rfl
@[simp] theorem ti_57 : tinfo Try.prog 57 = { ok := true, agg := true, cells := 4, bytes := 48, kind := .struct [(0, 1, 9), (1, 1, 9), (2, 1, 3), (3, 1, 3)], zok := true, zero := [.str [], .str [], .int .i64 0, .int .i64 0] } := by kernel_rfl
@[simp] theorem fl_57 : flat Try.prog 50 57 = some [.str, .str, .int, .int] := by kernel_rfl
@[simp] theorem eg_57 : Try.prog.eqGuardType Try.prog.depth 57 = false := by kernel_rfl
@[simp] theorem ti_58 : tinfo Try.prog 58 = { ok := true, agg := true, cells := 4, bytes := 48, kind := .struct [(0, 1, 9), (1, 1, 9), (2, 1, 3), (3, 1, 3)], zok := true, zero := [.str [], .str [], .int .i64 0, .int .i64 0] } := by kernel_rfl
@[simp] theorem fl_58 : flat Try.prog 50 58 = some [.str, .str, .int, .int] := by kernel_rfl
@[simp] theorem eg_58 : Try.prog.eqGuardType Try.prog.depth 58 = false := by kernel_rfl
@[simp] theorem ti_59 : tinfo Try.prog 59 = { ok := true, agg := false, cells := 1, bytes := 8, kind := .func, zok := true, zero := [.lit .nilFunc] } := by kernel_rfl
@[simp] theorem ti_60 : tinfo Try.prog 60 = { ok := true, agg := false, cells := 1, bytes := 8, kind := .func, zok := true, zero := [.lit .nilFunc] } := by kernel_rfl
@[simp] theorem ti_61 : tinfo Try.prog 61 = { ok := true, agg := false, cells := 1, bytes := 8, kind := .func, zok := true, zero := [.lit .nilFunc] } := by kernel_rfl
@[simp] theorem ti_63 : tinfo Try.prog 63 = { ok := true, agg := false, cells := 1, bytes := 8, kind := .func, zok := true, zero := [.lit .nilFunc] } := by kernel_rfl
@[simp] theorem ti_64 : tinfo Try.prog 64 = { ok := true, agg := false, cells := 1, bytes := 8, kind := .func, zok := true, zero := [.lit .nilFunc] } := by kernel_rfl
@[simp] theorem ti_65 : tinfo Try.prog 65 = { ok := true, agg := false, cells := 1, bytes := 8, kind := .func, zok := true, zero := [.lit .nilFunc] } := by kernel_rfl
@[simp] theorem ti_66 : tinfo Try.prog 66 = { ok := true, agg := true, cells := 3, bytes := 32, kind := .struct [(0, 1, 9), (1, 1, 4), (2, 1, 3)], zok := true, zero := [.str [], .bool false, .int .i64 0] } := by kernel_rfl
@[simp] theorem fl_66 : flat Try.prog 50 66 = some [.str, .bool, .int] := by kernel_rfl
@[simp] theorem eg_66 : Try.prog.eqGuardType Try.prog.depth 66 = false := by kernel_rfl
@[simp] theorem ti_67 : tinfo Try.prog 67 = { ok := true, agg := true, cells := 3, bytes := 32, kind := .struct [(0, 1, 9), (1, 1, 4), (2, 1, 3)], zok := true, zero := [.str [], .bool false, .int .i64 0] } := by kernel_rfl
@[simp] theorem fl_67 : flat Try.prog 50 67 = some [.str, .bool, .int] := by kernel_rfl
@[simp] theorem eg_67 : Try.prog.eqGuardType Try.prog.depth 67 = false := by kernel_rfl
@[simp] theorem ti_68 : tinfo Try.prog 68 = { ok := true, agg := false, cells := 1, bytes := 8, kind := .func, zok := true, zero := [.lit .nilFunc] } := by kernel_rfl
@[simp] theorem ti_69 : tinfo Try.prog 69 = { ok := true, agg := false, cells := 1, bytes := 8, kind := .func, zok := true, zero := [.lit .nilFunc] } := by kernel_rfl
@[simp] theorem ti_70 : tinfo Try.prog 70 = { ok := true, agg := false, cells := 1, bytes := 8, kind := .func, zok := true, zero := [.lit .nilFunc] } := by kernel_rfl
@[simp] theorem ti_72 : tinfo Try.prog 72 = { ok := true, agg := false, cells := 1, bytes := 8, kind := .func, zok := true, zero := [.lit .nilFunc] } := by kernel_rfl
@[simp] theorem ti_73 : tinfo Try.prog 73 = { ok := true, agg := false, cells := 1, bytes := 8, kind := .func, zok := true, zero := [.lit .nilFunc] } := by kernel_rfl
@[simp] theorem ti_74 : tinfo Try.prog 74 = { ok := true, agg := false, cells := 1, bytes := 8, kind := .func, zok := true, zero := [.lit .nilFunc] } := by kernel_rfl
@[simp] theorem ti_75 : tinfo Try.prog 75 = { ok := true, agg := false, cells := 1, bytes := 24, kind := .slice 9, zok := true, zero := [.nil] } := by kernel_rfl
@[simp] theorem ti_77 : tinfo Try.prog 77 = { ok := true, agg := false, cells := 1, bytes := 8, kind := .func, zok := true, zero := [.lit .nilFunc] } := by kernel_rfl
@[simp] theorem ti_78 : tinfo Try.prog 78 = { ok := true, agg := false, cells := 1, bytes := 8, kind := .func, zok := true, zero := [.lit .nilFunc] } := by kernel_rfl
@[simp] theorem ti_79 : tinfo Try.prog 79 = { ok := true, agg := false, cells := 1, bytes := 8, kind := .func, zok := true, zero := [.lit .nilFunc] } := by kernel_rfl
@[simp] theorem ti_80 : tinfo Try.prog 80 = { ok := true, agg := false, cells := 1, bytes := 8, kind := .int .i64, zok := true, zero := [.int .i64 0] } := by kernel_rfl
@[simp] theorem fl_80 : flat Try.prog 50 80 = some [.int] := by kernel_rfl
@[simp] theorem ti_82 : tinfo Try.prog 82 = { ok := true, agg := false, cells := 1, bytes := 8, kind := .func, zok := true, zero := [.lit .nilFunc] } := by kernel_rfl
@[simp] theorem ti_84 : tinfo Try.prog 84 = { ok := true, agg := false, cells := 1, bytes := 8, kind := .func, zok := true, zero := [.lit .nilFunc] } := by kernel_rfl
@[simp] theorem ti_85 : tinfo Try.prog 85 = { ok := true, agg := false, cells := 1, bytes := 8, kind := .func, zok := true, zero := [.lit .nilFunc] } := by kernel_rfl
@[simp] theorem ti_86 : tinfo Try.prog 86 = { ok := true, agg := false, cells := 1, bytes := 8, kind := .func, zok := true, zero := [.lit .nilFunc] } := by kernel_rfl
@[simp] theorem ti_87 : tinfo Try.prog 87 = { ok := true, agg := false, cells := 1, bytes := 8, kind := .func, zok := true, zero := [.lit .nilFunc] } := by kernel_rfl
@[simp] theorem ti_88 : tinfo Try.prog 88 = { ok := true, agg := false, cells := 1, bytes := 8, kind := .func, zok := true, zero := [.lit .nilFunc] } := by kernel_rfl
@[simp] theorem ti_89 : tinfo Try.prog 89 = { ok := true, agg := false, cells := 1, bytes := 8, kind := .map 9 3, zok := true, zero := [.lit (.map none)] } := by kernel_rfl
@[simp] theorem ti_90 : tinfo Try.prog 90 = { ok := true, agg := false, cells := 1, bytes := 24, kind := .slice 100, zok := true, zero := [.nil] } := by kernel_rfl
@[simp] theorem ti_91 : tinfo Try.prog 91 = { ok := true, agg := true, cells := 3, bytes := 56, kind := .struct [(0, 1, 75), (1, 1, 89), (2, 1, 90)], zok := true, zero := [.nil, .lit (.map none), .nil] } := by kernel_rfl
@[simp] theorem ti_92 : tinfo Try.prog 92 = { ok := true, agg := true, cells := 3, bytes := 56, kind := .struct [(0, 1, 75), (1, 1, 89), (2, 1, 90)], zok := true, zero := [.nil, .lit (.map none), .nil] } := by kernel_rfl
@[simp] theorem ti_93 : tinfo Try.prog 93 = { ok := true, agg := false, cells := 1, bytes := 8, kind := .func, zok := true, zero := [.lit .nilFunc] } := by kernel_rfl
@[simp] theorem ti_95 : tinfo Try.prog 95 = { ok := true, agg := false, cells := 1, bytes := 8, kind := .func, zok := true, zero := [.lit .nilFunc] } := by kernel_rfl
@[simp] theorem ti_96 : tinfo Try.prog 96 = { ok := true, agg := false, cells := 1, bytes := 24, kind := .slice 99, zok := true, zero := [.nil] } := by kernel_rfl
@[simp] theorem ti_97 : tinfo Try.prog 97 = { ok := true, agg := false, cells := 1, bytes := 8, kind := .func, zok := true, zero := [.lit .nilFunc] } := by kernel_rfl
@[simp] theorem ti_98 : tinfo Try.prog 98 = { ok := true, agg := true, cells := 2, bytes := 16, kind := .struct [(0, 1, 3), (1, 1, 3)], zok := true, zero := [.int .i64 0, .int .i64 0] } := by kernel_rfl
@[simp] theorem fl_98 : flat Try.prog 50 98 = some [.int, .int] := by kernel_rfl
@[simp] theorem eg_98 : Try.prog.eqGuardType Try.prog.depth 98 = false := by kernel_rfl
@[simp] theorem ti_99 : tinfo Try.prog 99 = { ok := true, agg := true, cells := 2, bytes := 16, kind := .struct [(0, 1, 3), (1, 1, 3)], zok := true, zero := [.int .i64 0, .int .i64 0] } := by kernel_rfl
@[simp] theorem fl_99 : flat Try.prog 50 99 = some [.int, .int] := by kernel_rfl
@[simp] theorem eg_99 : Try.prog.eqGuardType Try.prog.depth 99 = false := by kernel_rfl
@[simp] theorem ti_100 : tinfo Try.prog 100 = { ok := true, agg := false, cells := 1, bytes := 24, kind := .slice 102, zok := true, zero := [.nil] } := by kernel_rfl
@[simp] theorem ti_101 : tinfo Try.prog 101 = { ok := true, agg := true, cells := 3, bytes := 24, kind := .struct [(0, 1, 3), (1, 1, 3), (2, 1, 3)], zok := true, zero := [.int .i64 0, .int .i64 0, .int .i64 0] } := by kernel_rfl
@[simp] theorem fl_101 : flat Try.prog 50 101 = some [.int, .int, .int] := by kernel_rfl
@[simp] theorem eg_101 : Try.prog.eqGuardType Try.prog.depth 101 = false := by kernel_rfl
@[simp] theorem ti_102 : tinfo Try.prog 102 = { ok := true, agg := true, cells := 3, bytes := 24, kind := .struct [(0, 1, 3), (1, 1, 3), (2, 1, 3)], zok := true, zero := [.int .i64 0, .int .i64 0, .int .i64 0] } := by kernel_rfl
@[simp] theorem fl_102 : flat Try.prog 50 102 = some [.int, .int, .int] := by kernel_rfl
@[simp] theorem eg_102 : Try.prog.eqGuardType Try.prog.depth 102 = false := by kernel_rfl
@[simp] theorem ti_103 : tinfo Try.prog 103 = { ok := true, agg := false, cells := 1, bytes := 8, kind := .func, zok := true, zero := [.lit .nilFunc] } := by kernel_rfl
@[simp] theorem ti_104 : tinfo Try.prog 104 = { ok := true, agg := false, cells := 1, bytes := 8, kind := .func, zok := true, zero := [.lit .nilFunc] } := by kernel_rfl
@[simp] theorem ti_105 : tinfo Try.prog 105 = { ok := true, agg := false, cells := 1, bytes := 8, kind := .func, zok := true, zero := [.lit .nilFunc] } := by kernel_rfl
@[simp] theorem ti_106 : tinfo Try.prog 106 = { ok := true, agg := false, cells := 1, bytes := 8, kind := .func, zok := true, zero := [.lit .nilFunc] } := by kernel_rfl
@[simp] theorem ti_107 : tinfo Try.prog 107 = { ok := true, agg := false, cells := 1, bytes := 8, kind := .func, zok := true, zero := [.lit .nilFunc] } := by kernel_rfl
@[simp] theorem ti_108 : tinfo Try.prog 108 = { ok := true, agg := false, cells := 1, bytes := 24, kind := .slice 75, zok := true, zero := [.nil] } := by kernel_rfl
@[simp] theorem ti_109 : tinfo Try.prog 109 = { ok := true, agg := false, cells := 1, bytes := 8, kind := .func, zok := true, zero := [.lit .nilFunc] } := by kernel_rfl
@[simp] theorem ti_111 : tinfo Try.prog 111 = { ok := true, agg := false, cells := 1, bytes := 8, kind := .func, zok := true, zero := [.lit .nilFunc] } := by kernel_rfl
@[simp] theorem ti_112 : tinfo Try.prog 112 = { ok := true, agg := false, cells := 1, bytes := 8, kind := .func, zok := true, zero := [.lit .nilFunc] } := by kernel_rfl
@[simp] theorem ti_113 : tinfo Try.prog 113 = { ok := true, agg := false, cells := 1, bytes := 8, kind := .map 9 4, zok := true, zero := [.lit (.map none)] } := by kernel_rfl
@[simp] theorem ti_114 : tinfo Try.prog 114 = { ok := true, agg := false, cells := 1, bytes := 8, kind := .map 115 4, zok := true, zero := [.lit (.map none)] } := by kernel_rfl
@[simp] theorem ti_115 : tinfo Try.prog 115 = { ok := true, agg := true, cells := 2, bytes := 32, kind := .array 2 9, zok := true, zero := [.str [], .str []] } := by kernel_rfl
@[simp] theorem fl_115 : flat Try.prog 50 115 = some [.str, .str] := by kernel_rfl
@[simp] theorem eg_115 : Try.prog.eqGuardType Try.prog.depth 115 = false := by kernel_rfl
@[simp] theorem ti_116 : tinfo Try.prog 116 = { ok := true, agg := false, cells := 1, bytes := 8, kind := .func, zok := true, zero := [.lit .nilFunc] } := by kernel_rfl
@[simp] theorem ti_117 : tinfo Try.prog 117 = { ok := true, agg := false, cells := 1, bytes := 8, kind := .func, zok := true, zero := [.lit .nilFunc] } := by kernel_rfl
@[simp] theorem ti_118 : tinfo Try.prog 118 = { ok := true, agg := false, cells := 1, bytes := 8, kind := .func, zok := true, zero := [.lit .nilFunc] } := by kernel_rfl
@[simp] theorem ti_119 : tinfo Try.prog 119 = { ok := true, agg := false, cells := 1, bytes := 8, kind := .func, zok := true, zero := [.lit .nilFunc] } := by kernel_rfl
@[simp] theorem ti_120 : tinfo Try.prog 120 = { ok := true, agg := false, cells := 1, bytes := 8, kind := .func, zok := true, zero := [.lit .nilFunc] } := by kernel_rfl
@[simp] theorem ti_121 : tinfo Try.prog 121 = { ok := true, agg := false, cells := 1, bytes := 8, kind := .func, zok := true, zero := [.lit .nilFunc] } := by kernel_rfl
@[simp] theorem ti_122 : tinfo Try.prog 122 = { ok := true, agg := true, cells := 2, bytes := 24, kind := .struct [(0, 1, 9), (1, 1, 3)], zok := true, zero := [.str [], .int .i64 0] } := by kernel_rfl
@[simp] theorem fl_122 : flat Try.prog 50 122 = some [.str, .int] := by kernel_rfl
@[simp] theorem eg_122 : Try.prog.eqGuardType Try.prog.depth 122 = false := by kernel_rfl
@[simp] theorem ti_123 : tinfo Try.prog 123 = { ok := true, agg := true, cells := 2, bytes := 24, kind := .struct [(0, 1, 9), (1, 1, 3)], zok := true, zero := [.str [], .int .i64 0] } := by kernel_rfl
@[simp] theorem fl_123 : flat Try.prog 50 123 = some [.str, .int] := by kernel_rfl
@[simp] theorem eg_123 : Try.prog.eqGuardType Try.prog.depth 123 = false := by kernel_rfl
@[simp] theorem ti_124 : tinfo Try.prog 124 = { ok := true, agg := false, cells := 1, bytes := 8, kind := .func, zok := true, zero := [.lit .nilFunc] } := by kernel_rfl
@[simp] theorem ti_125 : tinfo Try.prog 125 = { ok := true, agg := false, cells := 1, bytes := 8, kind := .func, zok := true, zero := [.lit .nilFunc] } := by kernel_rfl
@[simp] theorem ti_126 : tinfo Try.prog 126 = { ok := true, agg := false, cells := 1, bytes := 8, kind := .func, zok := true, zero := [.lit .nilFunc] } := by kernel_rfl
@[simp] theorem ti_127 : tinfo Try.prog 127 = { ok := true, agg := false, cells := 1, bytes := 8, kind := .func, zok := true, zero := [.lit .nilFunc] } := by kernel_rfl
@[simp] theorem ti_128 : tinfo Try.prog 128 = { ok := true, agg := false, cells := 1, bytes := 8, kind := .func, zok := true, zero := [.lit .nilFunc] } := by kernel_rfl
@[simp] theorem ti_129 : tinfo Try.prog 129 = { ok := true, agg := false, cells := 1, bytes := 8, kind := .int .u64, zok := true, zero := [.int .u64 0] } := by kernel_rfl
@[simp] theorem fl_129 : flat Try.prog 50 129 = some [.int] := by kernel_rfl
@[simp] theorem ti_130 : tinfo Try.prog 130 = { ok := true, agg := false, cells := 1, bytes := 8, kind := .func, zok := true, zero := [.lit .nilFunc] } := by kernel_rfl
@[simp] theorem ti_131 : tinfo Try.prog 131 = { ok := true, agg := false, cells := 1, bytes := 8, kind := .func, zok := true, zero := [.lit .nilFunc] } := by kernel_rfl
@[simp] theorem ti_132 : tinfo Try.prog 132 = { ok := true, agg := false, cells := 1, bytes := 8, kind := .int .i64, zok := true, zero := [.int .i64 0] } := by kernel_rfl
@[simp] theorem fl_132 : flat Try.prog 50 132 = some [.int] := by kernel_rfl
@[simp] theorem ti_134 : tinfo Try.prog 134 = { ok := true, agg := false, cells := 1, bytes := 8, kind := .func, zok := true, zero := [.lit .nilFunc] } := by kernel_rfl
@[simp] theorem ti_135 : tinfo Try.prog 135 = { ok := true, agg := false, cells := 1, bytes := 8, kind := .func, zok := true, zero := [.lit .nilFunc] } := by kernel_rfl
@[simp] theorem ti_136 : tinfo Try.prog 136 = { ok := true, agg := false, cells := 1, bytes := 8, kind := .func, zok := true, zero := [.lit .nilFunc] } := by kernel_rfl
@[simp] theorem ti_137 : tinfo Try.prog 137 = { ok := true, agg := false, cells := 1, bytes := 8, kind := .func, zok := true, zero := [.lit .nilFunc] } := by kernel_rfl
@[simp] theorem ti_138 : tinfo Try.prog 138 = { ok := true, agg := false, cells := 1, bytes := 8, kind := .func, zok := true, zero := [.lit .nilFunc] } := by kernel_rfl
@[simp] theorem ti_139 : tinfo Try.prog 139 = { ok := true, agg := false, cells := 1, bytes := 4, kind := .int .u32, zok := true, zero := [.int .u32 0] } := by kernel_rfl
@[simp] theorem fl_139 : flat Try.prog 50 139 = some [.int] := by kernel_rfl
@[simp] theorem ti_140 : tinfo Try.prog 140 = { ok := true, agg := false, cells := 1, bytes := 8, kind := .func, zok := true, zero := [.lit .nilFunc] } := by kernel_rfl
@[simp] theorem ti_141 : tinfo Try.prog 141 = { ok := true, agg := false, cells := 1, bytes := 8, kind := .int .u64, zok := true, zero := [.int .u64 0] } := by kernel_rfl
@[simp] theorem fl_141 : flat Try.prog 50 141 = some [.int] := by kernel_rfl
@[simp] theorem ti_142 : tinfo Try.prog 142 = { ok := true, agg := false, cells := 1, bytes := 8, kind := .func, zok := true, zero := [.lit .nilFunc] } := by kernel_rfl
@[simp] theorem ti_143 : tinfo Try.prog 143 = { ok := true, agg := false, cells := 1, bytes := 8, kind := .func, zok := true, zero := [.lit .nilFunc] } := by kernel_rfl
@[simp] theorem ti_144 : tinfo Try.prog 144 = { ok := true, agg := false, cells := 1, bytes := 8, kind := .func, zok := true, zero := [.lit .nilFunc] } := by kernel_rfl
@[simp] theorem ti_145 : tinfo Try.prog 145 = { ok := true, agg := false, cells := 1, bytes := 8, kind := .func, zok := true, zero := [.lit .nilFunc] } := by kernel_rfl
@[simp] theorem ti_146 : tinfo Try.prog 146 = { ok := true, agg := false, cells := 1, bytes := 8, kind := .func, zok := true, zero := [.lit .nilFunc] } := by kernel_rfl
@[simp] theorem ti_147 : tinfo Try.prog 147 = { ok := true, agg := false, cells := 1, bytes := 8, kind := .int .u64, zok := true, zero := [.int .u64 0] } := by kernel_rfl
@[simp] theorem fl_147 : flat Try.prog 50 147 = some [.int] := by kernel_rfl
@[simp] theorem ti_148 : tinfo Try.prog 148 = { ok := true, agg := false, cells := 1, bytes := 8, kind := .func, zok := true, zero := [.lit .nilFunc] } := by kernel_rfl
@[simp] theorem ti_149 : tinfo Try.prog 149 = { ok := true, agg := false, cells := 1, bytes := 8, kind := .func, zok := true, zero := [.lit .nilFunc] } := by kernel_rfl
@[simp] theorem ti_150 : tinfo Try.prog 150 = { ok := true, agg := false, cells := 1, bytes := 8, kind := .func, zok := true, zero := [.lit .nilFunc] } := by kernel_rfl
@[simp] theorem ti_151 : tinfo Try.prog 151 = { ok := true, agg := false, cells := 1, bytes := 8, kind := .pointer 3, zok := true, zero := [.lit (.pointer none)] } := by kernel_rfl
@[simp] theorem ti_152 : tinfo Try.prog 152 = { ok := true, agg := false, cells := 1, bytes := 8, kind := .func, zok := true, zero := [.lit .nilFunc] } := by kernel_rfl
@[simp] theorem ti_153 : tinfo Try.prog 153 = { ok := true, agg := false, cells := 1, bytes := 8, kind := .func, zok := true, zero := [.lit .nilFunc] } := by kernel_rfl
@[simp] theorem ti_154 : tinfo Try.prog 154 = { ok := true, agg := false, cells := 1, bytes := 8, kind := .func, zok := true, zero := [.lit .nilFunc] } := by kernel_rfl
@[simp] theorem ti_155 : tinfo Try.prog 155 = { ok := true, agg := false, cells := 1, bytes := 8, kind := .pointer 147, zok := true, zero := [.lit (.pointer none)] } := by kernel_rfl
@[simp] theorem ti_157 : tinfo Try.prog 157 = { ok := true, agg := false, cells := 1, bytes := 8, kind := .func, zok := true, zero := [.lit .nilFunc] } := by kernel_rfl
@[simp] theorem ti_158 : tinfo Try.prog 158 = { ok := true, agg := false, cells := 1, bytes := 8, kind := .func, zok := true, zero := [.lit .nilFunc] } := by kernel_rfl
@[simp] theorem ti_159 : tinfo Try.prog 159 = { ok := true, agg := false, cells := 1, bytes := 8, kind := .func, zok := true, zero := [.lit .nilFunc] } := by kernel_rfl
@[simp] theorem ti_160 : tinfo Try.prog 160 = { ok := true, agg := true, cells := 4, bytes := 40, kind := .struct [(0, 1, 17), (1, 1, 17), (2, 1, 17), (3, 1, 9)], zok := true, zero := [.lit (.pointer none), .lit (.pointer none), .lit (.pointer none), .str []] } := by kernel_rfl
@[simp] theorem ti_161 : tinfo Try.prog 161 = { ok := true, agg := true, cells := 4, bytes := 40, kind := .struct [(0, 1, 17), (1, 1, 17), (2, 1, 17), (3, 1, 9)], zok := true, zero := [.lit (.pointer none), .lit (.pointer none), .lit (.pointer none), .str []] } := by kernel_rfl
@[simp] theorem ti_162 : tinfo Try.prog 162 = { ok := true, agg := true, cells := 0, bytes := 0, kind := .array 0 16, zok := true, zero := [] } := by kernel_rfl
@[simp] theorem ti_163 : tinfo Try.prog 163 = { ok := true, agg := true, cells := 0, bytes := 0, kind := .struct [(0, 0, 162)], zok := true, zero := [] } := by kernel_rfl
@[simp] theorem ti_164 : tinfo Try.prog 164 = { ok := true, agg := true, cells := 0, bytes := 0, kind := .struct [(0, 0, 162)], zok := true, zero := [] } := by kernel_rfl
@[simp] theorem ti_165 : tinfo Try.prog 165 = { ok := true, agg := false, cells := 1, bytes := 8, kind := .func, zok := true, zero := [.lit .nilFunc] } := by kernel_rfl
@[simp] theorem ti_166 : tinfo Try.prog 166 = { ok := true, agg := false, cells := 1, bytes := 1, kind := .int .u8, zok := true, zero := [.int .u8 0] } := by kernel_rfl
@[simp] theorem fl_166 : flat Try.prog 50 166 = some [.int] := by kernel_rfl
@[simp] theorem ti_167 : tinfo Try.prog 167 = { ok := true, agg := false, cells := 1, bytes := 1, kind := .int .u8, zok := true, zero := [.int .u8 0] } := by kernel_rfl
@[simp] theorem fl_167 : flat Try.prog 50 167 = some [.int] := by kernel_rfl
@[simp] theorem ti_168 : tinfo Try.prog 168 = { ok := true, agg := false, cells := 1, bytes := 8, kind := .func, zok := true, zero := [.lit .nilFunc] } := by kernel_rfl
@[simp] theorem ti_169 : tinfo Try.prog 169 = { ok := true, agg := false, cells := 1, bytes := 8, kind := .pointer 5, zok := true, zero := [.lit (.pointer none)] } := by kernel_rfl
@[simp] theorem ti_170 : tinfo Try.prog 170 = { ok := true, agg := false, cells := 1, bytes := 4, kind := .int .i32, zok := true, zero := [.int .i32 0] } := by kernel_rfl
@[simp] theorem fl_170 : flat Try.prog 50 170 = some [.int] := by kernel_rfl
@[simp] theorem ti_171 : tinfo Try.prog 171 = { ok := true, agg := false, cells := 1, bytes := 4, kind := .int .i32, zok := true, zero := [.int .i32 0] } := by kernel_rfl
@[simp] theorem fl_171 : flat Try.prog 50 171 = some [.int] := by kernel_rfl
@[simp] theorem ti_172 : tinfo Try.prog 172 = { ok := true, agg := true, cells := 11, bytes := 48, kind := .struct [(0, 1, 12), (1, 1, 12), (2, 1, 139), (3, 1, 166), (4, 1, 5), (5, 1, 5), (6, 1, 167), (7, 1, 168), (8, 1, 169), (9, 1, 170), (10, 1, 171)], zok := true, zero := [.int .u64 0, .int .u64 0, .int .u32 0, .int .u8 0, .int .u8 0, .int .u8 0, .int .u8 0, .lit .nilFunc, .lit (.pointer none), .int .i32 0, .int .i32 0] } := by kernel_rfl
@[simp] theorem ti_173 : tinfo Try.prog 173 = { ok := true, agg := true, cells := 11, bytes := 48, kind := .struct [(0, 1, 12), (1, 1, 12), (2, 1, 139), (3, 1, 166), (4, 1, 5), (5, 1, 5), (6, 1, 167), (7, 1, 168), (8, 1, 169), (9, 1, 170), (10, 1, 171)], zok := true, zero := [.int .u64 0, .int .u64 0, .int .u32 0, .int .u8 0, .int .u8 0, .int .u8 0, .int .u8 0, .lit .nilFunc, .lit (.pointer none), .int .i32 0, .int .i32 0] } := by kernel_rfl
theorem mixed : Try.prog.follows .mixedOrders = true := by kernel_rfl
end Go.Proofs.Ytjdchnbjegddhaa
