/- Of this translation's types the sizes, the fields' places and the zeros; of its functions that they are entered. No condition. Printed by a program of this work. -/
import Derived.Test.YtlfkgbcclinnbaaProg
import Derived.Test.YtlfkgbcclinnbaaAu
import Derived.KernelRfl
namespace Go.Proofs.Ytlfkgbcclinnbaa
set_option linter.all false
open Go Go.RowKit
theorem sz_0 : sizeB Try.prog 0 = some (false, 1) := by kernel_rfl
theorem sz_1 : sizeB Try.prog 1 = some (false, 1) := by kernel_rfl
theorem zi_1 : infoB Try.prog 1 = some (1, 8) := by kernel_rfl
theorem zc_1 : zeroCs Try.prog 1 = some [.nilFunc] := by kernel_rfl
theorem zl_1 : Lits [.nilFunc] [(.v (.lit .nilFunc))] := .lit _ rfl (.nil)
theorem sz_2 : sizeB Try.prog 2 = some (false, 1) := by kernel_rfl
theorem zi_2 : infoB Try.prog 2 = some (1, 8) := by kernel_rfl
theorem zc_2 : zeroCs Try.prog 2 = some [(.int .i64 0)] := by kernel_rfl
theorem zl_2 : Lits [(.int .i64 0)] [(.v (.int .i64 0))] := .int _ _ (.nil)
theorem sz_3 : sizeB Try.prog 3 = some (false, 1) := by kernel_rfl
theorem zi_3 : infoB Try.prog 3 = some (1, 8) := by kernel_rfl
theorem zc_3 : zeroCs Try.prog 3 = some [(.int .i64 0)] := by kernel_rfl
theorem zl_3 : Lits [(.int .i64 0)] [(.v (.int .i64 0))] := .int _ _ (.nil)
theorem sz_4 : sizeB Try.prog 4 = some (false, 1) := by kernel_rfl
theorem zi_4 : infoB Try.prog 4 = some (1, 1) := by kernel_rfl
theorem zc_4 : zeroCs Try.prog 4 = some [(.bool false)] := by kernel_rfl
theorem zl_4 : Lits [(.bool false)] [(.v (.bool false))] := .bool _ (.nil)
theorem sz_5 : sizeB Try.prog 5 = some (false, 1) := by kernel_rfl
theorem zi_5 : infoB Try.prog 5 = some (1, 1) := by kernel_rfl
theorem by_5 : byteB Try.prog 5 = true := by kernel_rfl
theorem zc_5 : zeroCs Try.prog 5 = some [(.int .u8 0)] := by kernel_rfl
theorem zl_5 : Lits [(.int .u8 0)] [(.v (.int .u8 0))] := .int _ _ (.nil)
theorem sz_6 : sizeB Try.prog 6 = some (false, 1) := by kernel_rfl
theorem zi_6 : infoB Try.prog 6 = some (1, 1) := by kernel_rfl
theorem by_6 : byteB Try.prog 6 = true := by kernel_rfl
theorem zc_6 : zeroCs Try.prog 6 = some [(.int .u8 0)] := by kernel_rfl
theorem zl_6 : Lits [(.int .u8 0)] [(.v (.int .u8 0))] := .int _ _ (.nil)
theorem sz_7 : sizeB Try.prog 7 = some (true, 4) := by kernel_rfl
theorem fo_7_0 : fieldOff Try.prog 7 0 = some 0 := by kernel_rfl
theorem fo_7_1 : fieldOff Try.prog 7 1 = some 1 := by kernel_rfl
theorem fo_7_2 : fieldOff Try.prog 7 2 = some 2 := by kernel_rfl
theorem fo_7_3 : fieldOff Try.prog 7 3 = some 3 := by kernel_rfl
theorem pl_7 : placesB Try.prog 7 = some [(0, 1), (1, 1), (2, 1), (3, 1)] := by kernel_rfl
theorem zi_7 : infoB Try.prog 7 = some (4, 24) := by kernel_rfl
theorem zc_7 : zeroCs Try.prog 7 = some [(.int .i64 0), (.int .i64 0), (.bool false), (.int .u8 0)] := by kernel_rfl
theorem zl_7 : Lits [(.int .i64 0), (.int .i64 0), (.bool false), (.int .u8 0)] [(.v (.int .i64 0)), (.v (.int .i64 0)), (.v (.bool false)), (.v (.int .u8 0))] := .int _ _ (.int _ _ (.bool _ (.int _ _ (.nil))))
theorem sz_8 : sizeB Try.prog 8 = some (true, 4) := by kernel_rfl
theorem fo_8_0 : fieldOff Try.prog 8 0 = some 0 := by kernel_rfl
theorem fo_8_1 : fieldOff Try.prog 8 1 = some 1 := by kernel_rfl
theorem fo_8_2 : fieldOff Try.prog 8 2 = some 2 := by kernel_rfl
theorem fo_8_3 : fieldOff Try.prog 8 3 = some 3 := by kernel_rfl
theorem pl_8 : placesB Try.prog 8 = some [(0, 1), (1, 1), (2, 1), (3, 1)] := by kernel_rfl
theorem zi_8 : infoB Try.prog 8 = some (4, 24) := by kernel_rfl
theorem zc_8 : zeroCs Try.prog 8 = some [(.int .i64 0), (.int .i64 0), (.bool false), (.int .u8 0)] := by kernel_rfl
theorem zl_8 : Lits [(.int .i64 0), (.int .i64 0), (.bool false), (.int .u8 0)] [(.v (.int .i64 0)), (.v (.int .i64 0)), (.v (.bool false)), (.v (.int .u8 0))] := .int _ _ (.int _ _ (.bool _ (.int _ _ (.nil))))
theorem sz_9 : sizeB Try.prog 9 = some (false, 1) := by kernel_rfl
theorem zi_9 : infoB Try.prog 9 = some (1, 16) := by kernel_rfl
theorem zc_9 : zeroCs Try.prog 9 = some [(.string ByteArray.empty)] := by kernel_rfl
theorem zl_9 : Lits [(.string ByteArray.empty)] [(.v (.str []))] := .str (.nil)
theorem sz_10 : sizeB Try.prog 10 = some (false, 1) := by kernel_rfl
theorem zi_10 : infoB Try.prog 10 = some (1, 16) := by kernel_rfl
theorem zc_10 : zeroCs Try.prog 10 = some [(.string ByteArray.empty)] := by kernel_rfl
theorem zl_10 : Lits [(.string ByteArray.empty)] [(.v (.str []))] := .str (.nil)
theorem sz_11 : sizeB Try.prog 11 = some (false, 1) := by kernel_rfl
theorem zi_11 : infoB Try.prog 11 = some (1, 16) := by kernel_rfl
theorem zc_11 : zeroCs Try.prog 11 = some [(.string ByteArray.empty)] := by kernel_rfl
theorem zl_11 : Lits [(.string ByteArray.empty)] [(.v (.str []))] := .str (.nil)
theorem sz_12 : sizeB Try.prog 12 = some (false, 1) := by kernel_rfl
theorem zi_12 : infoB Try.prog 12 = some (1, 8) := by kernel_rfl
theorem zc_12 : zeroCs Try.prog 12 = some [(.int .u64 0)] := by kernel_rfl
theorem zl_12 : Lits [(.int .u64 0)] [(.v (.int .u64 0))] := .int _ _ (.nil)
theorem sz_13 : sizeB Try.prog 13 = some (true, 2) := by kernel_rfl
theorem fo_13_0 : fieldOff Try.prog 13 0 = some 0 := by kernel_rfl
theorem fo_13_1 : fieldOff Try.prog 13 1 = some 1 := by kernel_rfl
theorem pl_13 : placesB Try.prog 13 = some [(0, 1), (1, 1)] := by kernel_rfl
theorem zi_13 : infoB Try.prog 13 = some (2, 24) := by kernel_rfl
theorem zc_13 : zeroCs Try.prog 13 = some [(.string ByteArray.empty), (.int .u64 0)] := by kernel_rfl
theorem zl_13 : Lits [(.string ByteArray.empty), (.int .u64 0)] [(.v (.str [])), (.v (.int .u64 0))] := .str (.int _ _ (.nil))
theorem sz_14 : sizeB Try.prog 14 = some (true, 2) := by kernel_rfl
theorem fo_14_0 : fieldOff Try.prog 14 0 = some 0 := by kernel_rfl
theorem fo_14_1 : fieldOff Try.prog 14 1 = some 1 := by kernel_rfl
theorem pl_14 : placesB Try.prog 14 = some [(0, 1), (1, 1)] := by kernel_rfl
theorem zi_14 : infoB Try.prog 14 = some (2, 24) := by kernel_rfl
theorem zc_14 : zeroCs Try.prog 14 = some [(.string ByteArray.empty), (.int .u64 0)] := by kernel_rfl
theorem zl_14 : Lits [(.string ByteArray.empty), (.int .u64 0)] [(.v (.str [])), (.v (.int .u64 0))] := .str (.int _ _ (.nil))
theorem sz_15 : sizeB Try.prog 15 = some (false, 1) := by kernel_rfl
theorem zi_15 : infoB Try.prog 15 = some (1, 8) := by kernel_rfl
theorem zc_15 : zeroCs Try.prog 15 = some [(.pointer none)] := by kernel_rfl
theorem zl_15 : Lits [(.pointer none)] [(.v (.lit (.pointer none)))] := .lit _ rfl (.nil)
theorem sz_16 : sizeB Try.prog 16 = some (false, 1) := by kernel_rfl
theorem zi_16 : infoB Try.prog 16 = some (1, 8) := by kernel_rfl
theorem zc_16 : zeroCs Try.prog 16 = some [(.pointer none)] := by kernel_rfl
theorem zl_16 : Lits [(.pointer none)] [(.v (.lit (.pointer none)))] := .lit _ rfl (.nil)
theorem sz_17 : sizeB Try.prog 17 = some (false, 1) := by kernel_rfl
theorem zi_17 : infoB Try.prog 17 = some (1, 8) := by kernel_rfl
theorem zc_17 : zeroCs Try.prog 17 = some [(.pointer none)] := by kernel_rfl
theorem zl_17 : Lits [(.pointer none)] [(.v (.lit (.pointer none)))] := .lit _ rfl (.nil)
theorem sz_18 : sizeB Try.prog 18 = some (true, 1) := by kernel_rfl
theorem fo_18_0 : fieldOff Try.prog 18 0 = some 0 := by kernel_rfl
theorem pl_18 : placesB Try.prog 18 = some [(0, 1)] := by kernel_rfl
theorem zi_18 : infoB Try.prog 18 = some (1, 8) := by kernel_rfl
theorem zc_18 : zeroCs Try.prog 18 = some [(.pointer none)] := by kernel_rfl
theorem zl_18 : Lits [(.pointer none)] [(.v (.lit (.pointer none)))] := .lit _ rfl (.nil)
theorem sz_19 : sizeB Try.prog 19 = some (true, 1) := by kernel_rfl
theorem fo_19_0 : fieldOff Try.prog 19 0 = some 0 := by kernel_rfl
theorem pl_19 : placesB Try.prog 19 = some [(0, 1)] := by kernel_rfl
theorem zi_19 : infoB Try.prog 19 = some (1, 8) := by kernel_rfl
theorem zc_19 : zeroCs Try.prog 19 = some [(.pointer none)] := by kernel_rfl
theorem zl_19 : Lits [(.pointer none)] [(.v (.lit (.pointer none)))] := .lit _ rfl (.nil)
theorem sz_20 : sizeB Try.prog 20 = some (false, 1) := by kernel_rfl
theorem zi_20 : infoB Try.prog 20 = some (1, 16) := by kernel_rfl
theorem zc_20 : zeroCs Try.prog 20 = some [.nilIface] := by kernel_rfl
theorem zl_20 : Lits [.nilIface] [(.v (.lit .nilIface))] := .lit _ rfl (.nil)
theorem sz_21 : sizeB Try.prog 21 = some (false, 1) := by kernel_rfl
theorem zi_21 : infoB Try.prog 21 = some (1, 4) := by kernel_rfl
theorem zc_21 : zeroCs Try.prog 21 = some [(.int .i32 0)] := by kernel_rfl
theorem zl_21 : Lits [(.int .i32 0)] [(.v (.int .i32 0))] := .int _ _ (.nil)
theorem sz_22 : sizeB Try.prog 22 = some (false, 1) := by kernel_rfl
theorem zi_22 : infoB Try.prog 22 = some (1, 24) := by kernel_rfl
theorem zc_22 : zeroCs Try.prog 22 = some [(.slice none 0 0)] := by kernel_rfl
theorem zl_22 : Lits [(.slice none 0 0)] [(.v (.lit (.slice none 0 0)))] := .lit _ rfl (.nil)
theorem sz_23 : sizeB Try.prog 23 = some (true, 12) := by kernel_rfl
theorem fo_23_0 : fieldOff Try.prog 23 0 = some 0 := by kernel_rfl
theorem fo_23_1 : fieldOff Try.prog 23 1 = some 1 := by kernel_rfl
theorem fo_23_2 : fieldOff Try.prog 23 2 = some 2 := by kernel_rfl
theorem fo_23_3 : fieldOff Try.prog 23 3 = some 3 := by kernel_rfl
theorem fo_23_4 : fieldOff Try.prog 23 4 = some 4 := by kernel_rfl
theorem fo_23_5 : fieldOff Try.prog 23 5 = some 5 := by kernel_rfl
theorem fo_23_6 : fieldOff Try.prog 23 6 = some 6 := by kernel_rfl
theorem fo_23_7 : fieldOff Try.prog 23 7 = some 7 := by kernel_rfl
theorem fo_23_8 : fieldOff Try.prog 23 8 = some 8 := by kernel_rfl
theorem fo_23_9 : fieldOff Try.prog 23 9 = some 9 := by kernel_rfl
theorem fo_23_10 : fieldOff Try.prog 23 10 = some 10 := by kernel_rfl
theorem fo_23_11 : fieldOff Try.prog 23 11 = some 11 := by kernel_rfl
theorem pl_23 : placesB Try.prog 23 = some [(0, 1), (1, 1), (2, 1), (3, 1), (4, 1), (5, 1), (6, 1), (7, 1), (8, 1), (9, 1), (10, 1), (11, 1)] := by kernel_rfl
theorem zi_23 : infoB Try.prog 23 = some (12, 120) := by kernel_rfl
theorem zc_23 : zeroCs Try.prog 23 = some [(.int .i64 0), (.int .i64 0), (.int .i64 0), (.string ByteArray.empty), (.int .i64 0), (.slice none 0 0), (.int .i64 0), (.int .i64 0), (.int .i64 0), (.int .i64 0), (.int .i64 0), (.bool false)] := by kernel_rfl
theorem zl_23 : Lits [(.int .i64 0), (.int .i64 0), (.int .i64 0), (.string ByteArray.empty), (.int .i64 0), (.slice none 0 0), (.int .i64 0), (.int .i64 0), (.int .i64 0), (.int .i64 0), (.int .i64 0), (.bool false)] [(.v (.int .i64 0)), (.v (.int .i64 0)), (.v (.int .i64 0)), (.v (.str [])), (.v (.int .i64 0)), (.v (.lit (.slice none 0 0))), (.v (.int .i64 0)), (.v (.int .i64 0)), (.v (.int .i64 0)), (.v (.int .i64 0)), (.v (.int .i64 0)), (.v (.bool false))] := .int _ _ (.int _ _ (.int _ _ (.str (.int _ _ (.lit _ rfl (.int _ _ (.int _ _ (.int _ _ (.int _ _ (.int _ _ (.bool _ (.nil))))))))))))
theorem sz_24 : sizeB Try.prog 24 = some (true, 12) := by kernel_rfl
theorem fo_24_0 : fieldOff Try.prog 24 0 = some 0 := by kernel_rfl
theorem fo_24_1 : fieldOff Try.prog 24 1 = some 1 := by kernel_rfl
theorem fo_24_2 : fieldOff Try.prog 24 2 = some 2 := by kernel_rfl
theorem fo_24_3 : fieldOff Try.prog 24 3 = some 3 := by kernel_rfl
theorem fo_24_4 : fieldOff Try.prog 24 4 = some 4 := by kernel_rfl
theorem fo_24_5 : fieldOff Try.prog 24 5 = some 5 := by kernel_rfl
theorem fo_24_6 : fieldOff Try.prog 24 6 = some 6 := by kernel_rfl
theorem fo_24_7 : fieldOff Try.prog 24 7 = some 7 := by kernel_rfl
theorem fo_24_8 : fieldOff Try.prog 24 8 = some 8 := by kernel_rfl
theorem fo_24_9 : fieldOff Try.prog 24 9 = some 9 := by kernel_rfl
theorem fo_24_10 : fieldOff Try.prog 24 10 = some 10 := by kernel_rfl
theorem fo_24_11 : fieldOff Try.prog 24 11 = some 11 := by kernel_rfl
theorem pl_24 : placesB Try.prog 24 = some [(0, 1), (1, 1), (2, 1), (3, 1), (4, 1), (5, 1), (6, 1), (7, 1), (8, 1), (9, 1), (10, 1), (11, 1)] := by kernel_rfl
theorem zi_24 : infoB Try.prog 24 = some (12, 120) := by kernel_rfl
theorem zc_24 : zeroCs Try.prog 24 = some [(.int .i64 0), (.int .i64 0), (.int .i64 0), (.string ByteArray.empty), (.int .i64 0), (.slice none 0 0), (.int .i64 0), (.int .i64 0), (.int .i64 0), (.int .i64 0), (.int .i64 0), (.bool false)] := by kernel_rfl
theorem zl_24 : Lits [(.int .i64 0), (.int .i64 0), (.int .i64 0), (.string ByteArray.empty), (.int .i64 0), (.slice none 0 0), (.int .i64 0), (.int .i64 0), (.int .i64 0), (.int .i64 0), (.int .i64 0), (.bool false)] [(.v (.int .i64 0)), (.v (.int .i64 0)), (.v (.int .i64 0)), (.v (.str [])), (.v (.int .i64 0)), (.v (.lit (.slice none 0 0))), (.v (.int .i64 0)), (.v (.int .i64 0)), (.v (.int .i64 0)), (.v (.int .i64 0)), (.v (.int .i64 0)), (.v (.bool false))] := .int _ _ (.int _ _ (.int _ _ (.str (.int _ _ (.lit _ rfl (.int _ _ (.int _ _ (.int _ _ (.int _ _ (.int _ _ (.bool _ (.nil))))))))))))
theorem sz_25 : sizeB Try.prog 25 = some (false, 1) := by kernel_rfl
theorem zi_25 : infoB Try.prog 25 = some (1, 8) := by kernel_rfl
theorem zc_25 : zeroCs Try.prog 25 = some [.nilFunc] := by kernel_rfl
theorem zl_25 : Lits [.nilFunc] [(.v (.lit .nilFunc))] := .lit _ rfl (.nil)
theorem sz_26 : sizeB Try.prog 26 = some (false, 1) := by kernel_rfl
theorem zi_26 : infoB Try.prog 26 = some (1, 8) := by kernel_rfl
theorem zc_26 : zeroCs Try.prog 26 = some [.nilFunc] := by kernel_rfl
theorem zl_26 : Lits [.nilFunc] [(.v (.lit .nilFunc))] := .lit _ rfl (.nil)
theorem sz_27 : sizeB Try.prog 27 = some (false, 1) := by kernel_rfl
theorem zi_27 : infoB Try.prog 27 = some (1, 24) := by kernel_rfl
theorem zc_27 : zeroCs Try.prog 27 = some [(.slice none 0 0)] := by kernel_rfl
theorem zl_27 : Lits [(.slice none 0 0)] [(.v (.lit (.slice none 0 0)))] := .lit _ rfl (.nil)
theorem sz_28 : sizeB Try.prog 28 = some (false, 1) := by kernel_rfl
theorem zi_28 : infoB Try.prog 28 = some (1, 8) := by kernel_rfl
theorem zc_28 : zeroCs Try.prog 28 = some [(.int .i64 0)] := by kernel_rfl
theorem zl_28 : Lits [(.int .i64 0)] [(.v (.int .i64 0))] := .int _ _ (.nil)
theorem sz_29 : sizeB Try.prog 29 = some (false, 1) := by kernel_rfl
theorem sz_30 : sizeB Try.prog 30 = some (false, 1) := by kernel_rfl
theorem zi_30 : infoB Try.prog 30 = some (1, 8) := by kernel_rfl
theorem zc_30 : zeroCs Try.prog 30 = some [.nilFunc] := by kernel_rfl
theorem zl_30 : Lits [.nilFunc] [(.v (.lit .nilFunc))] := .lit _ rfl (.nil)
theorem sz_31 : sizeB Try.prog 31 = some (false, 1) := by kernel_rfl
theorem zi_31 : infoB Try.prog 31 = some (1, 8) := by kernel_rfl
theorem zc_31 : zeroCs Try.prog 31 = some [.nilFunc] := by kernel_rfl
theorem zl_31 : Lits [.nilFunc] [(.v (.lit .nilFunc))] := .lit _ rfl (.nil)
theorem sz_32 : sizeB Try.prog 32 = some (true, 3) := by kernel_rfl
theorem fo_32_0 : fieldOff Try.prog 32 0 = some 0 := by kernel_rfl
theorem fo_32_1 : fieldOff Try.prog 32 1 = some 1 := by kernel_rfl
theorem fo_32_2 : fieldOff Try.prog 32 2 = some 2 := by kernel_rfl
theorem pl_32 : placesB Try.prog 32 = some [(0, 1), (1, 1), (2, 1)] := by kernel_rfl
theorem zi_32 : infoB Try.prog 32 = some (3, 24) := by kernel_rfl
theorem zc_32 : zeroCs Try.prog 32 = some [(.bool false), (.int .i64 0), (.int .i64 0)] := by kernel_rfl
theorem zl_32 : Lits [(.bool false), (.int .i64 0), (.int .i64 0)] [(.v (.bool false)), (.v (.int .i64 0)), (.v (.int .i64 0))] := .bool _ (.int _ _ (.int _ _ (.nil)))
theorem sz_33 : sizeB Try.prog 33 = some (true, 3) := by kernel_rfl
theorem fo_33_0 : fieldOff Try.prog 33 0 = some 0 := by kernel_rfl
theorem fo_33_1 : fieldOff Try.prog 33 1 = some 1 := by kernel_rfl
theorem fo_33_2 : fieldOff Try.prog 33 2 = some 2 := by kernel_rfl
theorem pl_33 : placesB Try.prog 33 = some [(0, 1), (1, 1), (2, 1)] := by kernel_rfl
theorem zi_33 : infoB Try.prog 33 = some (3, 24) := by kernel_rfl
theorem zc_33 : zeroCs Try.prog 33 = some [(.bool false), (.int .i64 0), (.int .i64 0)] := by kernel_rfl
theorem zl_33 : Lits [(.bool false), (.int .i64 0), (.int .i64 0)] [(.v (.bool false)), (.v (.int .i64 0)), (.v (.int .i64 0))] := .bool _ (.int _ _ (.int _ _ (.nil)))
theorem sz_34 : sizeB Try.prog 34 = some (false, 1) := by kernel_rfl
theorem sz_35 : sizeB Try.prog 35 = some (false, 1) := by kernel_rfl
theorem zi_35 : infoB Try.prog 35 = some (1, 8) := by kernel_rfl
theorem zc_35 : zeroCs Try.prog 35 = some [.nilFunc] := by kernel_rfl
theorem zl_35 : Lits [.nilFunc] [(.v (.lit .nilFunc))] := .lit _ rfl (.nil)
theorem sz_36 : sizeB Try.prog 36 = some (false, 1) := by kernel_rfl
theorem zi_36 : infoB Try.prog 36 = some (1, 8) := by kernel_rfl
theorem zc_36 : zeroCs Try.prog 36 = some [.nilFunc] := by kernel_rfl
theorem zl_36 : Lits [.nilFunc] [(.v (.lit .nilFunc))] := .lit _ rfl (.nil)
theorem sz_37 : sizeB Try.prog 37 = some (false, 1) := by kernel_rfl
theorem zi_37 : infoB Try.prog 37 = some (1, 8) := by kernel_rfl
theorem zc_37 : zeroCs Try.prog 37 = some [.nilFunc] := by kernel_rfl
theorem zl_37 : Lits [.nilFunc] [(.v (.lit .nilFunc))] := .lit _ rfl (.nil)
theorem sz_38 : sizeB Try.prog 38 = some (false, 1) := by kernel_rfl
theorem zi_38 : infoB Try.prog 38 = some (1, 8) := by kernel_rfl
theorem zc_38 : zeroCs Try.prog 38 = some [.nilFunc] := by kernel_rfl
theorem zl_38 : Lits [.nilFunc] [(.v (.lit .nilFunc))] := .lit _ rfl (.nil)
theorem sz_39 : sizeB Try.prog 39 = some (false, 1) := by kernel_rfl
theorem zi_39 : infoB Try.prog 39 = some (1, 8) := by kernel_rfl
theorem zc_39 : zeroCs Try.prog 39 = some [.nilFunc] := by kernel_rfl
theorem zl_39 : Lits [.nilFunc] [(.v (.lit .nilFunc))] := .lit _ rfl (.nil)
theorem sz_40 : sizeB Try.prog 40 = some (false, 1) := by kernel_rfl
theorem zi_40 : infoB Try.prog 40 = some (1, 24) := by kernel_rfl
theorem zc_40 : zeroCs Try.prog 40 = some [(.slice none 0 0)] := by kernel_rfl
theorem zl_40 : Lits [(.slice none 0 0)] [(.v (.lit (.slice none 0 0)))] := .lit _ rfl (.nil)
theorem sz_41 : sizeB Try.prog 41 = some (false, 1) := by kernel_rfl
theorem zi_41 : infoB Try.prog 41 = some (1, 8) := by kernel_rfl
theorem zc_41 : zeroCs Try.prog 41 = some [.nilFunc] := by kernel_rfl
theorem zl_41 : Lits [.nilFunc] [(.v (.lit .nilFunc))] := .lit _ rfl (.nil)
theorem sz_42 : sizeB Try.prog 42 = some (false, 1) := by kernel_rfl
theorem zi_42 : infoB Try.prog 42 = some (1, 8) := by kernel_rfl
theorem zc_42 : zeroCs Try.prog 42 = some [.nilFunc] := by kernel_rfl
theorem zl_42 : Lits [.nilFunc] [(.v (.lit .nilFunc))] := .lit _ rfl (.nil)
theorem sz_43 : sizeB Try.prog 43 = some (false, 1) := by kernel_rfl
theorem zi_43 : infoB Try.prog 43 = some (1, 8) := by kernel_rfl
theorem zc_43 : zeroCs Try.prog 43 = some [.nilFunc] := by kernel_rfl
theorem zl_43 : Lits [.nilFunc] [(.v (.lit .nilFunc))] := .lit _ rfl (.nil)
theorem sz_44 : sizeB Try.prog 44 = some (false, 1) := by kernel_rfl
theorem zi_44 : infoB Try.prog 44 = some (1, 4) := by kernel_rfl
theorem zc_44 : zeroCs Try.prog 44 = some [(.int .u32 0)] := by kernel_rfl
theorem zl_44 : Lits [(.int .u32 0)] [(.v (.int .u32 0))] := .int _ _ (.nil)
theorem sz_45 : sizeB Try.prog 45 = some (false, 1) := by kernel_rfl
theorem zi_45 : infoB Try.prog 45 = some (1, 8) := by kernel_rfl
theorem zc_45 : zeroCs Try.prog 45 = some [.nilFunc] := by kernel_rfl
theorem zl_45 : Lits [.nilFunc] [(.v (.lit .nilFunc))] := .lit _ rfl (.nil)
theorem sz_46 : sizeB Try.prog 46 = some (false, 1) := by kernel_rfl
theorem sz_47 : sizeB Try.prog 47 = some (false, 1) := by kernel_rfl
theorem zi_47 : infoB Try.prog 47 = some (1, 8) := by kernel_rfl
theorem zc_47 : zeroCs Try.prog 47 = some [.nilFunc] := by kernel_rfl
theorem zl_47 : Lits [.nilFunc] [(.v (.lit .nilFunc))] := .lit _ rfl (.nil)
theorem sz_48 : sizeB Try.prog 48 = some (false, 1) := by kernel_rfl
theorem zi_48 : infoB Try.prog 48 = some (1, 8) := by kernel_rfl
theorem zc_48 : zeroCs Try.prog 48 = some [.nilFunc] := by kernel_rfl
theorem zl_48 : Lits [.nilFunc] [(.v (.lit .nilFunc))] := .lit _ rfl (.nil)
theorem sz_49 : sizeB Try.prog 49 = some (false, 1) := by kernel_rfl
theorem zi_49 : infoB Try.prog 49 = some (1, 8) := by kernel_rfl
theorem zc_49 : zeroCs Try.prog 49 = some [.nilFunc] := by kernel_rfl
theorem zl_49 : Lits [.nilFunc] [(.v (.lit .nilFunc))] := .lit _ rfl (.nil)
theorem sz_50 : sizeB Try.prog 50 = some (false, 1) := by kernel_rfl
theorem zi_50 : infoB Try.prog 50 = some (1, 8) := by kernel_rfl
theorem zc_50 : zeroCs Try.prog 50 = some [.nilFunc] := by kernel_rfl
theorem zl_50 : Lits [.nilFunc] [(.v (.lit .nilFunc))] := .lit _ rfl (.nil)
theorem sz_51 : sizeB Try.prog 51 = some (false, 1) := by kernel_rfl
theorem zi_51 : infoB Try.prog 51 = some (1, 8) := by kernel_rfl
theorem zc_51 : zeroCs Try.prog 51 = some [.nilFunc] := by kernel_rfl
theorem zl_51 : Lits [.nilFunc] [(.v (.lit .nilFunc))] := .lit _ rfl (.nil)
theorem sz_52 : sizeB Try.prog 52 = some (false, 1) := by kernel_rfl
theorem zi_52 : infoB Try.prog 52 = some (1, 8) := by kernel_rfl
theorem zc_52 : zeroCs Try.prog 52 = some [.nilFunc] := by kernel_rfl
theorem zl_52 : Lits [.nilFunc] [(.v (.lit .nilFunc))] := .lit _ rfl (.nil)
theorem sz_53 : sizeB Try.prog 53 = some (false, 1) := by kernel_rfl
theorem zi_53 : infoB Try.prog 53 = some (1, 8) := by kernel_rfl
theorem zc_53 : zeroCs Try.prog 53 = some [(.pointer none)] := by kernel_rfl
theorem zl_53 : Lits [(.pointer none)] [(.v (.lit (.pointer none)))] := .lit _ rfl (.nil)
theorem sz_54 : sizeB Try.prog 54 = some (false, 1) := by kernel_rfl
theorem zi_54 : infoB Try.prog 54 = some (1, 8) := by kernel_rfl
theorem zc_54 : zeroCs Try.prog 54 = some [.nilFunc] := by kernel_rfl
theorem zl_54 : Lits [.nilFunc] [(.v (.lit .nilFunc))] := .lit _ rfl (.nil)
theorem sz_55 : sizeB Try.prog 55 = some (false, 1) := by kernel_rfl
theorem zi_55 : infoB Try.prog 55 = some (1, 8) := by kernel_rfl
theorem zc_55 : zeroCs Try.prog 55 = some [.nilFunc] := by kernel_rfl
theorem zl_55 : Lits [.nilFunc] [(.v (.lit .nilFunc))] := .lit _ rfl (.nil)
theorem sz_56 : sizeB Try.prog 56 = some (false, 1) := by kernel_rfl
theorem sz_57 : sizeB Try.prog 57 = some (false, 1) := by kernel_rfl
theorem zi_57 : infoB Try.prog 57 = some (1, 8) := by kernel_rfl
theorem zc_57 : zeroCs Try.prog 57 = some [.nilFunc] := by kernel_rfl
theorem zl_57 : Lits [.nilFunc] [(.v (.lit .nilFunc))] := .lit _ rfl (.nil)
theorem sz_58 : sizeB Try.prog 58 = some (true, 2) := by kernel_rfl
theorem fo_58_0 : fieldOff Try.prog 58 0 = some 0 := by kernel_rfl
theorem fo_58_1 : fieldOff Try.prog 58 1 = some 1 := by kernel_rfl
theorem pl_58 : placesB Try.prog 58 = some [(0, 1), (1, 1)] := by kernel_rfl
theorem zi_58 : infoB Try.prog 58 = some (2, 16) := by kernel_rfl
theorem zc_58 : zeroCs Try.prog 58 = some [(.int .i64 0), (.int .i64 0)] := by kernel_rfl
theorem zl_58 : Lits [(.int .i64 0), (.int .i64 0)] [(.v (.int .i64 0)), (.v (.int .i64 0))] := .int _ _ (.int _ _ (.nil))
theorem sz_59 : sizeB Try.prog 59 = some (true, 2) := by kernel_rfl
theorem fo_59_0 : fieldOff Try.prog 59 0 = some 0 := by kernel_rfl
theorem fo_59_1 : fieldOff Try.prog 59 1 = some 1 := by kernel_rfl
theorem pl_59 : placesB Try.prog 59 = some [(0, 1), (1, 1)] := by kernel_rfl
theorem zi_59 : infoB Try.prog 59 = some (2, 16) := by kernel_rfl
theorem zc_59 : zeroCs Try.prog 59 = some [(.int .i64 0), (.int .i64 0)] := by kernel_rfl
theorem zl_59 : Lits [(.int .i64 0), (.int .i64 0)] [(.v (.int .i64 0)), (.v (.int .i64 0))] := .int _ _ (.int _ _ (.nil))
theorem sz_60 : sizeB Try.prog 60 = some (false, 1) := by kernel_rfl
theorem zi_60 : infoB Try.prog 60 = some (1, 8) := by kernel_rfl
theorem zc_60 : zeroCs Try.prog 60 = some [.nilFunc] := by kernel_rfl
theorem zl_60 : Lits [.nilFunc] [(.v (.lit .nilFunc))] := .lit _ rfl (.nil)
theorem sz_61 : sizeB Try.prog 61 = some (false, 1) := by kernel_rfl
theorem zi_61 : infoB Try.prog 61 = some (1, 8) := by kernel_rfl
theorem zc_61 : zeroCs Try.prog 61 = some [.nilFunc] := by kernel_rfl
theorem zl_61 : Lits [.nilFunc] [(.v (.lit .nilFunc))] := .lit _ rfl (.nil)
theorem sz_62 : sizeB Try.prog 62 = some (false, 1) := by kernel_rfl
theorem zi_62 : infoB Try.prog 62 = some (1, 8) := by kernel_rfl
theorem zc_62 : zeroCs Try.prog 62 = some [.nilFunc] := by kernel_rfl
theorem zl_62 : Lits [.nilFunc] [(.v (.lit .nilFunc))] := .lit _ rfl (.nil)
theorem sz_63 : sizeB Try.prog 63 = some (false, 1) := by kernel_rfl
theorem zi_63 : infoB Try.prog 63 = some (1, 8) := by kernel_rfl
theorem zc_63 : zeroCs Try.prog 63 = some [(.int .u64 0)] := by kernel_rfl
theorem zl_63 : Lits [(.int .u64 0)] [(.v (.int .u64 0))] := .int _ _ (.nil)
theorem sz_64 : sizeB Try.prog 64 = some (true, 9) := by kernel_rfl
theorem pl_64 : placesB Try.prog 64 = some [(0, 1), (1, 1), (2, 1), (3, 1), (4, 1), (5, 1), (6, 1), (7, 1), (8, 1)] := by kernel_rfl
theorem zi_64 : infoB Try.prog 64 = some (9, 72) := by kernel_rfl
theorem zc_64 : zeroCs Try.prog 64 = some [(.int .i64 0), (.int .i64 0), (.int .i64 0), (.int .i64 0), (.int .i64 0), (.int .i64 0), (.int .i64 0), (.int .i64 0), (.int .i64 0)] := by kernel_rfl
theorem zl_64 : Lits [(.int .i64 0), (.int .i64 0), (.int .i64 0), (.int .i64 0), (.int .i64 0), (.int .i64 0), (.int .i64 0), (.int .i64 0), (.int .i64 0)] [(.v (.int .i64 0)), (.v (.int .i64 0)), (.v (.int .i64 0)), (.v (.int .i64 0)), (.v (.int .i64 0)), (.v (.int .i64 0)), (.v (.int .i64 0)), (.v (.int .i64 0)), (.v (.int .i64 0))] := .int _ _ (.int _ _ (.int _ _ (.int _ _ (.int _ _ (.int _ _ (.int _ _ (.int _ _ (.int _ _ (.nil)))))))))
theorem sz_65 : sizeB Try.prog 65 = some (false, 1) := by kernel_rfl
theorem zi_65 : infoB Try.prog 65 = some (1, 8) := by kernel_rfl
theorem zc_65 : zeroCs Try.prog 65 = some [.nilFunc] := by kernel_rfl
theorem zl_65 : Lits [.nilFunc] [(.v (.lit .nilFunc))] := .lit _ rfl (.nil)
theorem sz_66 : sizeB Try.prog 66 = some (false, 1) := by kernel_rfl
theorem zi_66 : infoB Try.prog 66 = some (1, 8) := by kernel_rfl
theorem zc_66 : zeroCs Try.prog 66 = some [.nilFunc] := by kernel_rfl
theorem zl_66 : Lits [.nilFunc] [(.v (.lit .nilFunc))] := .lit _ rfl (.nil)
theorem sz_67 : sizeB Try.prog 67 = some (false, 1) := by kernel_rfl
theorem zi_67 : infoB Try.prog 67 = some (1, 24) := by kernel_rfl
theorem zc_67 : zeroCs Try.prog 67 = some [(.slice none 0 0)] := by kernel_rfl
theorem zl_67 : Lits [(.slice none 0 0)] [(.v (.lit (.slice none 0 0)))] := .lit _ rfl (.nil)
theorem sz_68 : sizeB Try.prog 68 = some (false, 1) := by kernel_rfl
theorem zi_68 : infoB Try.prog 68 = some (1, 8) := by kernel_rfl
theorem zc_68 : zeroCs Try.prog 68 = some [.nilFunc] := by kernel_rfl
theorem zl_68 : Lits [.nilFunc] [(.v (.lit .nilFunc))] := .lit _ rfl (.nil)
theorem sz_69 : sizeB Try.prog 69 = some (true, 4) := by kernel_rfl
theorem fo_69_0 : fieldOff Try.prog 69 0 = some 0 := by kernel_rfl
theorem fo_69_1 : fieldOff Try.prog 69 1 = some 1 := by kernel_rfl
theorem fo_69_2 : fieldOff Try.prog 69 2 = some 2 := by kernel_rfl
theorem fo_69_3 : fieldOff Try.prog 69 3 = some 3 := by kernel_rfl
theorem pl_69 : placesB Try.prog 69 = some [(0, 1), (1, 1), (2, 1), (3, 1)] := by kernel_rfl
theorem zi_69 : infoB Try.prog 69 = some (4, 40) := by kernel_rfl
theorem zc_69 : zeroCs Try.prog 69 = some [(.pointer none), (.pointer none), (.pointer none), (.string ByteArray.empty)] := by kernel_rfl
theorem zl_69 : Lits [(.pointer none), (.pointer none), (.pointer none), (.string ByteArray.empty)] [(.v (.lit (.pointer none))), (.v (.lit (.pointer none))), (.v (.lit (.pointer none))), (.v (.str []))] := .lit _ rfl (.lit _ rfl (.lit _ rfl (.str (.nil))))
theorem sz_70 : sizeB Try.prog 70 = some (true, 4) := by kernel_rfl
theorem fo_70_0 : fieldOff Try.prog 70 0 = some 0 := by kernel_rfl
theorem fo_70_1 : fieldOff Try.prog 70 1 = some 1 := by kernel_rfl
theorem fo_70_2 : fieldOff Try.prog 70 2 = some 2 := by kernel_rfl
theorem fo_70_3 : fieldOff Try.prog 70 3 = some 3 := by kernel_rfl
theorem pl_70 : placesB Try.prog 70 = some [(0, 1), (1, 1), (2, 1), (3, 1)] := by kernel_rfl
theorem zi_70 : infoB Try.prog 70 = some (4, 40) := by kernel_rfl
theorem zc_70 : zeroCs Try.prog 70 = some [(.pointer none), (.pointer none), (.pointer none), (.string ByteArray.empty)] := by kernel_rfl
theorem zl_70 : Lits [(.pointer none), (.pointer none), (.pointer none), (.string ByteArray.empty)] [(.v (.lit (.pointer none))), (.v (.lit (.pointer none))), (.v (.lit (.pointer none))), (.v (.str []))] := .lit _ rfl (.lit _ rfl (.lit _ rfl (.str (.nil))))
theorem sz_71 : sizeB Try.prog 71 = some (true, 0) := by kernel_rfl
theorem pl_71 : placesB Try.prog 71 = some [] := by kernel_rfl
theorem zc_71 : zeroCs Try.prog 71 = some [] := by kernel_rfl
theorem zl_71 : Lits [] [] := .nil
theorem sz_72 : sizeB Try.prog 72 = some (true, 0) := by kernel_rfl
theorem pl_72 : placesB Try.prog 72 = some [(0, 0)] := by kernel_rfl
theorem zc_72 : zeroCs Try.prog 72 = some [] := by kernel_rfl
theorem zl_72 : Lits [] [] := .nil
theorem sz_73 : sizeB Try.prog 73 = some (true, 0) := by kernel_rfl
theorem pl_73 : placesB Try.prog 73 = some [(0, 0)] := by kernel_rfl
theorem zc_73 : zeroCs Try.prog 73 = some [] := by kernel_rfl
theorem zl_73 : Lits [] [] := .nil
theorem sz_74 : sizeB Try.prog 74 = some (false, 1) := by kernel_rfl
theorem zi_74 : infoB Try.prog 74 = some (1, 8) := by kernel_rfl
theorem zc_74 : zeroCs Try.prog 74 = some [.nilFunc] := by kernel_rfl
theorem zl_74 : Lits [.nilFunc] [(.v (.lit .nilFunc))] := .lit _ rfl (.nil)
theorem sz_75 : sizeB Try.prog 75 = some (false, 1) := by kernel_rfl
theorem zi_75 : infoB Try.prog 75 = some (1, 1) := by kernel_rfl
theorem by_75 : byteB Try.prog 75 = true := by kernel_rfl
theorem zc_75 : zeroCs Try.prog 75 = some [(.int .u8 0)] := by kernel_rfl
theorem zl_75 : Lits [(.int .u8 0)] [(.v (.int .u8 0))] := .int _ _ (.nil)
theorem sz_76 : sizeB Try.prog 76 = some (false, 1) := by kernel_rfl
theorem zi_76 : infoB Try.prog 76 = some (1, 1) := by kernel_rfl
theorem by_76 : byteB Try.prog 76 = true := by kernel_rfl
theorem zc_76 : zeroCs Try.prog 76 = some [(.int .u8 0)] := by kernel_rfl
theorem zl_76 : Lits [(.int .u8 0)] [(.v (.int .u8 0))] := .int _ _ (.nil)
theorem sz_77 : sizeB Try.prog 77 = some (false, 1) := by kernel_rfl
theorem zi_77 : infoB Try.prog 77 = some (1, 8) := by kernel_rfl
theorem zc_77 : zeroCs Try.prog 77 = some [.nilFunc] := by kernel_rfl
theorem zl_77 : Lits [.nilFunc] [(.v (.lit .nilFunc))] := .lit _ rfl (.nil)
theorem sz_78 : sizeB Try.prog 78 = some (false, 1) := by kernel_rfl
theorem zi_78 : infoB Try.prog 78 = some (1, 8) := by kernel_rfl
theorem zc_78 : zeroCs Try.prog 78 = some [(.pointer none)] := by kernel_rfl
theorem zl_78 : Lits [(.pointer none)] [(.v (.lit (.pointer none)))] := .lit _ rfl (.nil)
theorem sz_79 : sizeB Try.prog 79 = some (false, 1) := by kernel_rfl
theorem zi_79 : infoB Try.prog 79 = some (1, 4) := by kernel_rfl
theorem zc_79 : zeroCs Try.prog 79 = some [(.int .i32 0)] := by kernel_rfl
theorem zl_79 : Lits [(.int .i32 0)] [(.v (.int .i32 0))] := .int _ _ (.nil)
theorem sz_80 : sizeB Try.prog 80 = some (false, 1) := by kernel_rfl
theorem zi_80 : infoB Try.prog 80 = some (1, 4) := by kernel_rfl
theorem zc_80 : zeroCs Try.prog 80 = some [(.int .i32 0)] := by kernel_rfl
theorem zl_80 : Lits [(.int .i32 0)] [(.v (.int .i32 0))] := .int _ _ (.nil)
theorem sz_81 : sizeB Try.prog 81 = some (true, 11) := by kernel_rfl
theorem fo_81_0 : fieldOff Try.prog 81 0 = some 0 := by kernel_rfl
theorem fo_81_1 : fieldOff Try.prog 81 1 = some 1 := by kernel_rfl
theorem fo_81_2 : fieldOff Try.prog 81 2 = some 2 := by kernel_rfl
theorem fo_81_3 : fieldOff Try.prog 81 3 = some 3 := by kernel_rfl
theorem fo_81_4 : fieldOff Try.prog 81 4 = some 4 := by kernel_rfl
theorem fo_81_5 : fieldOff Try.prog 81 5 = some 5 := by kernel_rfl
theorem fo_81_6 : fieldOff Try.prog 81 6 = some 6 := by kernel_rfl
theorem fo_81_7 : fieldOff Try.prog 81 7 = some 7 := by kernel_rfl
theorem fo_81_8 : fieldOff Try.prog 81 8 = some 8 := by kernel_rfl
theorem fo_81_9 : fieldOff Try.prog 81 9 = some 9 := by kernel_rfl
theorem fo_81_10 : fieldOff Try.prog 81 10 = some 10 := by kernel_rfl
theorem pl_81 : placesB Try.prog 81 = some [(0, 1), (1, 1), (2, 1), (3, 1), (4, 1), (5, 1), (6, 1), (7, 1), (8, 1), (9, 1), (10, 1)] := by kernel_rfl
theorem zi_81 : infoB Try.prog 81 = some (11, 48) := by kernel_rfl
theorem zc_81 : zeroCs Try.prog 81 = some [(.int .u64 0), (.int .u64 0), (.int .u32 0), (.int .u8 0), (.int .u8 0), (.int .u8 0), (.int .u8 0), .nilFunc, (.pointer none), (.int .i32 0), (.int .i32 0)] := by kernel_rfl
theorem zl_81 : Lits [(.int .u64 0), (.int .u64 0), (.int .u32 0), (.int .u8 0), (.int .u8 0), (.int .u8 0), (.int .u8 0), .nilFunc, (.pointer none), (.int .i32 0), (.int .i32 0)] [(.v (.int .u64 0)), (.v (.int .u64 0)), (.v (.int .u32 0)), (.v (.int .u8 0)), (.v (.int .u8 0)), (.v (.int .u8 0)), (.v (.int .u8 0)), (.v (.lit .nilFunc)), (.v (.lit (.pointer none))), (.v (.int .i32 0)), (.v (.int .i32 0))] := .int _ _ (.int _ _ (.int _ _ (.int _ _ (.int _ _ (.int _ _ (.int _ _ (.lit _ rfl (.lit _ rfl (.int _ _ (.int _ _ (.nil)))))))))))
theorem sz_82 : sizeB Try.prog 82 = some (true, 11) := by kernel_rfl
theorem fo_82_0 : fieldOff Try.prog 82 0 = some 0 := by kernel_rfl
theorem fo_82_1 : fieldOff Try.prog 82 1 = some 1 := by kernel_rfl
theorem fo_82_2 : fieldOff Try.prog 82 2 = some 2 := by kernel_rfl
theorem fo_82_3 : fieldOff Try.prog 82 3 = some 3 := by kernel_rfl
theorem fo_82_4 : fieldOff Try.prog 82 4 = some 4 := by kernel_rfl
theorem fo_82_5 : fieldOff Try.prog 82 5 = some 5 := by kernel_rfl
theorem fo_82_6 : fieldOff Try.prog 82 6 = some 6 := by kernel_rfl
theorem fo_82_7 : fieldOff Try.prog 82 7 = some 7 := by kernel_rfl
theorem fo_82_8 : fieldOff Try.prog 82 8 = some 8 := by kernel_rfl
theorem fo_82_9 : fieldOff Try.prog 82 9 = some 9 := by kernel_rfl
theorem fo_82_10 : fieldOff Try.prog 82 10 = some 10 := by kernel_rfl
theorem pl_82 : placesB Try.prog 82 = some [(0, 1), (1, 1), (2, 1), (3, 1), (4, 1), (5, 1), (6, 1), (7, 1), (8, 1), (9, 1), (10, 1)] := by kernel_rfl
theorem zi_82 : infoB Try.prog 82 = some (11, 48) := by kernel_rfl
theorem zc_82 : zeroCs Try.prog 82 = some [(.int .u64 0), (.int .u64 0), (.int .u32 0), (.int .u8 0), (.int .u8 0), (.int .u8 0), (.int .u8 0), .nilFunc, (.pointer none), (.int .i32 0), (.int .i32 0)] := by kernel_rfl
theorem zl_82 : Lits [(.int .u64 0), (.int .u64 0), (.int .u32 0), (.int .u8 0), (.int .u8 0), (.int .u8 0), (.int .u8 0), .nilFunc, (.pointer none), (.int .i32 0), (.int .i32 0)] [(.v (.int .u64 0)), (.v (.int .u64 0)), (.v (.int .u32 0)), (.v (.int .u8 0)), (.v (.int .u8 0)), (.v (.int .u8 0)), (.v (.int .u8 0)), (.v (.lit .nilFunc)), (.v (.lit (.pointer none))), (.v (.int .i32 0)), (.v (.int .i32 0))] := .int _ _ (.int _ _ (.int _ _ (.int _ _ (.int _ _ (.int _ _ (.int _ _ (.lit _ rfl (.lit _ rfl (.int _ _ (.int _ _ (.nil)))))))))))
theorem sz_83 : sizeB Try.prog 83 = some (false, 1) := by kernel_rfl
theorem zi_83 : infoB Try.prog 83 = some (1, 8) := by kernel_rfl
theorem zc_83 : zeroCs Try.prog 83 = some [(.pointer none)] := by kernel_rfl
theorem zl_83 : Lits [(.pointer none)] [(.v (.lit (.pointer none)))] := .lit _ rfl (.nil)
theorem sk_33 : structK Try.prog 33 = some [.bool, .int .i64, .int .i64] := by kernel_rfl
theorem sk_59 : structK Try.prog 59 = some [.int .i64, .int .i64] := by kernel_rfl
theorem mx_all : Try.prog.follows .mixedOrders = true := by kernel_rfl
theorem en_2 : entersB Try.prog 2 = true := by kernel_rfl
theorem en_3 : entersB Try.prog 3 = true := by kernel_rfl
theorem en_4 : entersB Try.prog 4 = true := by kernel_rfl
theorem en_5 : entersB Try.prog 5 = true := by kernel_rfl
theorem en_6 : entersB Try.prog 6 = true := by kernel_rfl
theorem en_7 : entersB Try.prog 7 = true := by kernel_rfl
theorem en_8 : entersB Try.prog 8 = true := by kernel_rfl
theorem en_9 : entersB Try.prog 9 = true := by kernel_rfl
theorem en_10 : entersB Try.prog 10 = true := by kernel_rfl
theorem en_11 : entersB Try.prog 11 = true := by kernel_rfl
theorem en_12 : entersB Try.prog 12 = true := by kernel_rfl
theorem en_13 : entersB Try.prog 13 = true := by kernel_rfl
theorem en_14 : entersB Try.prog 14 = true := by kernel_rfl
theorem en_15 : entersB Try.prog 15 = true := by kernel_rfl
theorem en_16 : entersB Try.prog 16 = true := by kernel_rfl
theorem en_17 : entersB Try.prog 17 = true := by kernel_rfl
theorem en_18 : entersB Try.prog 18 = true := by kernel_rfl
theorem en_19 : entersB Try.prog 19 = true := by kernel_rfl
theorem en_20 : entersB Try.prog 20 = true := by kernel_rfl
theorem en_21 : entersB Try.prog 21 = true := by kernel_rfl
theorem en_22 : entersB Try.prog 22 = true := by kernel_rfl
theorem en_23 : entersB Try.prog 23 = true := by kernel_rfl
theorem en_24 : entersB Try.prog 24 = true := by kernel_rfl
theorem en_25 : entersB Try.prog 25 = true := by kernel_rfl
theorem en_26 : entersB Try.prog 26 = true := by kernel_rfl
theorem en_27 : entersB Try.prog 27 = true := by kernel_rfl
theorem en_28 : entersB Try.prog 28 = true := by kernel_rfl
theorem en_29 : entersB Try.prog 29 = true := by kernel_rfl
theorem en_30 : entersB Try.prog 30 = true := by kernel_rfl
theorem en_31 : entersB Try.prog 31 = true := by kernel_rfl
theorem en_32 : entersB Try.prog 32 = true := by kernel_rfl
theorem en_33 : entersB Try.prog 33 = true := by kernel_rfl
theorem en_34 : entersB Try.prog 34 = true := by kernel_rfl
theorem en_35 : entersB Try.prog 35 = true := by kernel_rfl
theorem en_36 : entersB Try.prog 36 = true := by kernel_rfl
theorem en_37 : entersB Try.prog 37 = true := by kernel_rfl
theorem en_38 : entersB Try.prog 38 = true := by kernel_rfl
theorem en_39 : entersB Try.prog 39 = true := by kernel_rfl
theorem en_40 : entersB Try.prog 40 = true := by kernel_rfl
theorem en_41 : entersB Try.prog 41 = true := by kernel_rfl
theorem en_42 : entersB Try.prog 42 = true := by kernel_rfl
theorem en_43 : entersB Try.prog 43 = true := by kernel_rfl
theorem en_44 : entersB Try.prog 44 = true := by kernel_rfl
theorem en_45 : entersB Try.prog 45 = true := by kernel_rfl
end Go.Proofs.Ytlfkgbcclinnbaa
