/- Of this translation's types the sizes, the fields' places and the zeros; of its functions that they are entered. No condition. Printed by a program of this work. -/
import Derived.Test.YtigodfnckjidoaaProg
import Derived.Test.YtigodfnckjidoaaAu
import Derived.KernelRfl
namespace Go.Proofs.Ytigodfnckjidoaa
set_option linter.all false
open Go Go.RowKit
theorem sz_0 : sizeB Try.prog 0 = some (false, 1) := by kernel_rfl
theorem sz_1 : sizeB Try.prog 1 = some (false, 1) := by kernel_rfl
theorem zi_1 : infoB Try.prog 1 = some (1, 8) := by kernel_rfl
theorem zv_1 : zeroV Try.prog 1 = some .nilFunc := by kernel_rfl
theorem zc_1 : zeroCs Try.prog 1 = some [.nilFunc] := by kernel_rfl
theorem zl_1 : Lits [.nilFunc] [(.v (.lit .nilFunc))] := .lit _ rfl (.nil)
theorem sz_2 : sizeB Try.prog 2 = some (false, 1) := by kernel_rfl
theorem zi_2 : infoB Try.prog 2 = some (1, 8) := by kernel_rfl
theorem zv_2 : zeroV Try.prog 2 = some (.int .i64 0) := by kernel_rfl
theorem zc_2 : zeroCs Try.prog 2 = some [(.int .i64 0)] := by kernel_rfl
theorem zl_2 : Lits [(.int .i64 0)] [(.v (.int .i64 0))] := .int _ _ (.nil)
theorem sz_3 : sizeB Try.prog 3 = some (false, 1) := by kernel_rfl
theorem zi_3 : infoB Try.prog 3 = some (1, 8) := by kernel_rfl
theorem zv_3 : zeroV Try.prog 3 = some (.int .i64 0) := by kernel_rfl
theorem zc_3 : zeroCs Try.prog 3 = some [(.int .i64 0)] := by kernel_rfl
theorem zl_3 : Lits [(.int .i64 0)] [(.v (.int .i64 0))] := .int _ _ (.nil)
theorem sz_4 : sizeB Try.prog 4 = some (false, 1) := by kernel_rfl
theorem zi_4 : infoB Try.prog 4 = some (1, 1) := by kernel_rfl
theorem zv_4 : zeroV Try.prog 4 = some (.bool false) := by kernel_rfl
theorem zc_4 : zeroCs Try.prog 4 = some [(.bool false)] := by kernel_rfl
theorem zl_4 : Lits [(.bool false)] [(.v (.bool false))] := .bool _ (.nil)
theorem sz_5 : sizeB Try.prog 5 = some (false, 1) := by kernel_rfl
theorem zi_5 : infoB Try.prog 5 = some (1, 1) := by kernel_rfl
theorem by_5 : byteB Try.prog 5 = true := by kernel_rfl
theorem zv_5 : zeroV Try.prog 5 = some (.int .u8 0) := by kernel_rfl
theorem zc_5 : zeroCs Try.prog 5 = some [(.int .u8 0)] := by kernel_rfl
theorem zl_5 : Lits [(.int .u8 0)] [(.v (.int .u8 0))] := .int _ _ (.nil)
theorem sz_6 : sizeB Try.prog 6 = some (false, 1) := by kernel_rfl
theorem zi_6 : infoB Try.prog 6 = some (1, 1) := by kernel_rfl
theorem by_6 : byteB Try.prog 6 = true := by kernel_rfl
theorem zv_6 : zeroV Try.prog 6 = some (.int .u8 0) := by kernel_rfl
theorem zc_6 : zeroCs Try.prog 6 = some [(.int .u8 0)] := by kernel_rfl
theorem zl_6 : Lits [(.int .u8 0)] [(.v (.int .u8 0))] := .int _ _ (.nil)
theorem sz_7 : sizeB Try.prog 7 = some (true, 4) := by kernel_rfl
theorem fo_7_0 : fieldOff Try.prog 7 0 = some 0 := by kernel_rfl
theorem fo_7_1 : fieldOff Try.prog 7 1 = some 1 := by kernel_rfl
theorem fo_7_2 : fieldOff Try.prog 7 2 = some 2 := by kernel_rfl
theorem fo_7_3 : fieldOff Try.prog 7 3 = some 3 := by kernel_rfl
theorem pl_7 : placesB Try.prog 7 = some [(0, 1), (1, 1), (2, 1), (3, 1)] := by kernel_rfl
theorem zi_7 : infoB Try.prog 7 = some (4, 24) := by kernel_rfl
theorem zv_7 : zeroV Try.prog 7 = some (.agg #[(.int .i64 0), (.int .i64 0), (.bool false), (.int .u8 0)]) := by kernel_rfl
theorem zc_7 : zeroCs Try.prog 7 = some [(.int .i64 0), (.int .i64 0), (.bool false), (.int .u8 0)] := by kernel_rfl
theorem zl_7 : Lits [(.int .i64 0), (.int .i64 0), (.bool false), (.int .u8 0)] [(.v (.int .i64 0)), (.v (.int .i64 0)), (.v (.bool false)), (.v (.int .u8 0))] := .int _ _ (.int _ _ (.bool _ (.int _ _ (.nil))))
theorem sz_8 : sizeB Try.prog 8 = some (true, 4) := by kernel_rfl
theorem fo_8_0 : fieldOff Try.prog 8 0 = some 0 := by kernel_rfl
theorem fo_8_1 : fieldOff Try.prog 8 1 = some 1 := by kernel_rfl
theorem fo_8_2 : fieldOff Try.prog 8 2 = some 2 := by kernel_rfl
theorem fo_8_3 : fieldOff Try.prog 8 3 = some 3 := by kernel_rfl
theorem pl_8 : placesB Try.prog 8 = some [(0, 1), (1, 1), (2, 1), (3, 1)] := by kernel_rfl
theorem zi_8 : infoB Try.prog 8 = some (4, 24) := by kernel_rfl
theorem zv_8 : zeroV Try.prog 8 = some (.agg #[(.int .i64 0), (.int .i64 0), (.bool false), (.int .u8 0)]) := by kernel_rfl
theorem zc_8 : zeroCs Try.prog 8 = some [(.int .i64 0), (.int .i64 0), (.bool false), (.int .u8 0)] := by kernel_rfl
theorem zl_8 : Lits [(.int .i64 0), (.int .i64 0), (.bool false), (.int .u8 0)] [(.v (.int .i64 0)), (.v (.int .i64 0)), (.v (.bool false)), (.v (.int .u8 0))] := .int _ _ (.int _ _ (.bool _ (.int _ _ (.nil))))
theorem sz_9 : sizeB Try.prog 9 = some (false, 1) := by kernel_rfl
theorem zi_9 : infoB Try.prog 9 = some (1, 16) := by kernel_rfl
theorem zv_9 : zeroV Try.prog 9 = some (.string ByteArray.empty) := by kernel_rfl
theorem zc_9 : zeroCs Try.prog 9 = some [(.string ByteArray.empty)] := by kernel_rfl
theorem zl_9 : Lits [(.string ByteArray.empty)] [(.v (.str []))] := .str (.nil)
theorem sz_10 : sizeB Try.prog 10 = some (false, 1) := by kernel_rfl
theorem zi_10 : infoB Try.prog 10 = some (1, 16) := by kernel_rfl
theorem zv_10 : zeroV Try.prog 10 = some (.string ByteArray.empty) := by kernel_rfl
theorem zc_10 : zeroCs Try.prog 10 = some [(.string ByteArray.empty)] := by kernel_rfl
theorem zl_10 : Lits [(.string ByteArray.empty)] [(.v (.str []))] := .str (.nil)
theorem sz_11 : sizeB Try.prog 11 = some (false, 1) := by kernel_rfl
theorem zi_11 : infoB Try.prog 11 = some (1, 16) := by kernel_rfl
theorem zv_11 : zeroV Try.prog 11 = some (.string ByteArray.empty) := by kernel_rfl
theorem zc_11 : zeroCs Try.prog 11 = some [(.string ByteArray.empty)] := by kernel_rfl
theorem zl_11 : Lits [(.string ByteArray.empty)] [(.v (.str []))] := .str (.nil)
theorem sz_12 : sizeB Try.prog 12 = some (false, 1) := by kernel_rfl
theorem zi_12 : infoB Try.prog 12 = some (1, 8) := by kernel_rfl
theorem zv_12 : zeroV Try.prog 12 = some (.int .u64 0) := by kernel_rfl
theorem zc_12 : zeroCs Try.prog 12 = some [(.int .u64 0)] := by kernel_rfl
theorem zl_12 : Lits [(.int .u64 0)] [(.v (.int .u64 0))] := .int _ _ (.nil)
theorem sz_13 : sizeB Try.prog 13 = some (true, 2) := by kernel_rfl
theorem fo_13_0 : fieldOff Try.prog 13 0 = some 0 := by kernel_rfl
theorem fo_13_1 : fieldOff Try.prog 13 1 = some 1 := by kernel_rfl
theorem pl_13 : placesB Try.prog 13 = some [(0, 1), (1, 1)] := by kernel_rfl
theorem zi_13 : infoB Try.prog 13 = some (2, 24) := by kernel_rfl
theorem zv_13 : zeroV Try.prog 13 = some (.agg #[(.string ByteArray.empty), (.int .u64 0)]) := by kernel_rfl
theorem zc_13 : zeroCs Try.prog 13 = some [(.string ByteArray.empty), (.int .u64 0)] := by kernel_rfl
theorem zl_13 : Lits [(.string ByteArray.empty), (.int .u64 0)] [(.v (.str [])), (.v (.int .u64 0))] := .str (.int _ _ (.nil))
theorem sz_14 : sizeB Try.prog 14 = some (true, 2) := by kernel_rfl
theorem fo_14_0 : fieldOff Try.prog 14 0 = some 0 := by kernel_rfl
theorem fo_14_1 : fieldOff Try.prog 14 1 = some 1 := by kernel_rfl
theorem pl_14 : placesB Try.prog 14 = some [(0, 1), (1, 1)] := by kernel_rfl
theorem zi_14 : infoB Try.prog 14 = some (2, 24) := by kernel_rfl
theorem zv_14 : zeroV Try.prog 14 = some (.agg #[(.string ByteArray.empty), (.int .u64 0)]) := by kernel_rfl
theorem zc_14 : zeroCs Try.prog 14 = some [(.string ByteArray.empty), (.int .u64 0)] := by kernel_rfl
theorem zl_14 : Lits [(.string ByteArray.empty), (.int .u64 0)] [(.v (.str [])), (.v (.int .u64 0))] := .str (.int _ _ (.nil))
theorem sz_15 : sizeB Try.prog 15 = some (false, 1) := by kernel_rfl
theorem zi_15 : infoB Try.prog 15 = some (1, 8) := by kernel_rfl
theorem zv_15 : zeroV Try.prog 15 = some (.pointer none) := by kernel_rfl
theorem zc_15 : zeroCs Try.prog 15 = some [(.pointer none)] := by kernel_rfl
theorem zl_15 : Lits [(.pointer none)] [(.v (.lit (.pointer none)))] := .lit _ rfl (.nil)
theorem sz_16 : sizeB Try.prog 16 = some (false, 1) := by kernel_rfl
theorem zi_16 : infoB Try.prog 16 = some (1, 8) := by kernel_rfl
theorem zv_16 : zeroV Try.prog 16 = some (.pointer none) := by kernel_rfl
theorem zc_16 : zeroCs Try.prog 16 = some [(.pointer none)] := by kernel_rfl
theorem zl_16 : Lits [(.pointer none)] [(.v (.lit (.pointer none)))] := .lit _ rfl (.nil)
theorem sz_17 : sizeB Try.prog 17 = some (false, 1) := by kernel_rfl
theorem zi_17 : infoB Try.prog 17 = some (1, 8) := by kernel_rfl
theorem zv_17 : zeroV Try.prog 17 = some (.pointer none) := by kernel_rfl
theorem zc_17 : zeroCs Try.prog 17 = some [(.pointer none)] := by kernel_rfl
theorem zl_17 : Lits [(.pointer none)] [(.v (.lit (.pointer none)))] := .lit _ rfl (.nil)
theorem sz_18 : sizeB Try.prog 18 = some (true, 1) := by kernel_rfl
theorem fo_18_0 : fieldOff Try.prog 18 0 = some 0 := by kernel_rfl
theorem pl_18 : placesB Try.prog 18 = some [(0, 1)] := by kernel_rfl
theorem zi_18 : infoB Try.prog 18 = some (1, 8) := by kernel_rfl
theorem zv_18 : zeroV Try.prog 18 = some (.agg #[(.pointer none)]) := by kernel_rfl
theorem zc_18 : zeroCs Try.prog 18 = some [(.pointer none)] := by kernel_rfl
theorem zl_18 : Lits [(.pointer none)] [(.v (.lit (.pointer none)))] := .lit _ rfl (.nil)
theorem sz_19 : sizeB Try.prog 19 = some (true, 1) := by kernel_rfl
theorem fo_19_0 : fieldOff Try.prog 19 0 = some 0 := by kernel_rfl
theorem pl_19 : placesB Try.prog 19 = some [(0, 1)] := by kernel_rfl
theorem zi_19 : infoB Try.prog 19 = some (1, 8) := by kernel_rfl
theorem zv_19 : zeroV Try.prog 19 = some (.agg #[(.pointer none)]) := by kernel_rfl
theorem zc_19 : zeroCs Try.prog 19 = some [(.pointer none)] := by kernel_rfl
theorem zl_19 : Lits [(.pointer none)] [(.v (.lit (.pointer none)))] := .lit _ rfl (.nil)
theorem sz_20 : sizeB Try.prog 20 = some (false, 1) := by kernel_rfl
theorem zi_20 : infoB Try.prog 20 = some (1, 16) := by kernel_rfl
theorem zv_20 : zeroV Try.prog 20 = some .nilIface := by kernel_rfl
theorem zc_20 : zeroCs Try.prog 20 = some [.nilIface] := by kernel_rfl
theorem zl_20 : Lits [.nilIface] [(.v (.lit .nilIface))] := .lit _ rfl (.nil)
theorem sz_21 : sizeB Try.prog 21 = some (false, 1) := by kernel_rfl
theorem zi_21 : infoB Try.prog 21 = some (1, 4) := by kernel_rfl
theorem zv_21 : zeroV Try.prog 21 = some (.int .i32 0) := by kernel_rfl
theorem zc_21 : zeroCs Try.prog 21 = some [(.int .i32 0)] := by kernel_rfl
theorem zl_21 : Lits [(.int .i32 0)] [(.v (.int .i32 0))] := .int _ _ (.nil)
theorem sz_22 : sizeB Try.prog 22 = some (false, 1) := by kernel_rfl
theorem zi_22 : infoB Try.prog 22 = some (1, 24) := by kernel_rfl
theorem zv_22 : zeroV Try.prog 22 = some (.slice none 0 0) := by kernel_rfl
theorem zc_22 : zeroCs Try.prog 22 = some [(.slice none 0 0)] := by kernel_rfl
theorem zl_22 : Lits [(.slice none 0 0)] [(.v (.lit (.slice none 0 0)))] := .lit _ rfl (.nil)
theorem sz_23 : sizeB Try.prog 23 = some (false, 1) := by kernel_rfl
theorem zi_23 : infoB Try.prog 23 = some (1, 8) := by kernel_rfl
theorem zv_23 : zeroV Try.prog 23 = some .nilFunc := by kernel_rfl
theorem zc_23 : zeroCs Try.prog 23 = some [.nilFunc] := by kernel_rfl
theorem zl_23 : Lits [.nilFunc] [(.v (.lit .nilFunc))] := .lit _ rfl (.nil)
theorem sz_24 : sizeB Try.prog 24 = some (false, 1) := by kernel_rfl
theorem zi_24 : infoB Try.prog 24 = some (1, 24) := by kernel_rfl
theorem zv_24 : zeroV Try.prog 24 = some (.slice none 0 0) := by kernel_rfl
theorem zc_24 : zeroCs Try.prog 24 = some [(.slice none 0 0)] := by kernel_rfl
theorem zl_24 : Lits [(.slice none 0 0)] [(.v (.lit (.slice none 0 0)))] := .lit _ rfl (.nil)
theorem sz_25 : sizeB Try.prog 25 = some (false, 1) := by kernel_rfl
theorem sz_26 : sizeB Try.prog 26 = some (false, 1) := by kernel_rfl
theorem zi_26 : infoB Try.prog 26 = some (1, 8) := by kernel_rfl
theorem zv_26 : zeroV Try.prog 26 = some .nilFunc := by kernel_rfl
theorem zc_26 : zeroCs Try.prog 26 = some [.nilFunc] := by kernel_rfl
theorem zl_26 : Lits [.nilFunc] [(.v (.lit .nilFunc))] := .lit _ rfl (.nil)
theorem sz_27 : sizeB Try.prog 27 = some (false, 1) := by kernel_rfl
theorem zi_27 : infoB Try.prog 27 = some (1, 8) := by kernel_rfl
theorem zv_27 : zeroV Try.prog 27 = some (.pointer none) := by kernel_rfl
theorem zc_27 : zeroCs Try.prog 27 = some [(.pointer none)] := by kernel_rfl
theorem zl_27 : Lits [(.pointer none)] [(.v (.lit (.pointer none)))] := .lit _ rfl (.nil)
theorem sz_28 : sizeB Try.prog 28 = some (false, 1) := by kernel_rfl
theorem zi_28 : infoB Try.prog 28 = some (1, 8) := by kernel_rfl
theorem zv_28 : zeroV Try.prog 28 = some .nilFunc := by kernel_rfl
theorem zc_28 : zeroCs Try.prog 28 = some [.nilFunc] := by kernel_rfl
theorem zl_28 : Lits [.nilFunc] [(.v (.lit .nilFunc))] := .lit _ rfl (.nil)
theorem sz_29 : sizeB Try.prog 29 = some (false, 1) := by kernel_rfl
theorem zi_29 : infoB Try.prog 29 = some (1, 24) := by kernel_rfl
theorem zv_29 : zeroV Try.prog 29 = some (.slice none 0 0) := by kernel_rfl
theorem zc_29 : zeroCs Try.prog 29 = some [(.slice none 0 0)] := by kernel_rfl
theorem zl_29 : Lits [(.slice none 0 0)] [(.v (.lit (.slice none 0 0)))] := .lit _ rfl (.nil)
theorem sz_30 : sizeB Try.prog 30 = some (false, 1) := by kernel_rfl
theorem zi_30 : infoB Try.prog 30 = some (1, 8) := by kernel_rfl
theorem zv_30 : zeroV Try.prog 30 = some .nilFunc := by kernel_rfl
theorem zc_30 : zeroCs Try.prog 30 = some [.nilFunc] := by kernel_rfl
theorem zl_30 : Lits [.nilFunc] [(.v (.lit .nilFunc))] := .lit _ rfl (.nil)
theorem sz_31 : sizeB Try.prog 31 = some (false, 1) := by kernel_rfl
theorem sz_32 : sizeB Try.prog 32 = some (false, 1) := by kernel_rfl
theorem zi_32 : infoB Try.prog 32 = some (1, 8) := by kernel_rfl
theorem zv_32 : zeroV Try.prog 32 = some .nilFunc := by kernel_rfl
theorem zc_32 : zeroCs Try.prog 32 = some [.nilFunc] := by kernel_rfl
theorem zl_32 : Lits [.nilFunc] [(.v (.lit .nilFunc))] := .lit _ rfl (.nil)
theorem sz_33 : sizeB Try.prog 33 = some (false, 1) := by kernel_rfl
theorem zi_33 : infoB Try.prog 33 = some (1, 8) := by kernel_rfl
theorem zv_33 : zeroV Try.prog 33 = some .nilFunc := by kernel_rfl
theorem zc_33 : zeroCs Try.prog 33 = some [.nilFunc] := by kernel_rfl
theorem zl_33 : Lits [.nilFunc] [(.v (.lit .nilFunc))] := .lit _ rfl (.nil)
theorem sz_34 : sizeB Try.prog 34 = some (false, 1) := by kernel_rfl
theorem zi_34 : infoB Try.prog 34 = some (1, 8) := by kernel_rfl
theorem zv_34 : zeroV Try.prog 34 = some .nilFunc := by kernel_rfl
theorem zc_34 : zeroCs Try.prog 34 = some [.nilFunc] := by kernel_rfl
theorem zl_34 : Lits [.nilFunc] [(.v (.lit .nilFunc))] := .lit _ rfl (.nil)
theorem sz_35 : sizeB Try.prog 35 = some (false, 1) := by kernel_rfl
theorem zi_35 : infoB Try.prog 35 = some (1, 8) := by kernel_rfl
theorem zv_35 : zeroV Try.prog 35 = some .nilFunc := by kernel_rfl
theorem zc_35 : zeroCs Try.prog 35 = some [.nilFunc] := by kernel_rfl
theorem zl_35 : Lits [.nilFunc] [(.v (.lit .nilFunc))] := .lit _ rfl (.nil)
theorem sz_36 : sizeB Try.prog 36 = some (true, 3) := by kernel_rfl
theorem fo_36_0 : fieldOff Try.prog 36 0 = some 0 := by kernel_rfl
theorem fo_36_1 : fieldOff Try.prog 36 1 = some 1 := by kernel_rfl
theorem fo_36_2 : fieldOff Try.prog 36 2 = some 2 := by kernel_rfl
theorem pl_36 : placesB Try.prog 36 = some [(0, 1), (1, 1), (2, 1)] := by kernel_rfl
theorem zi_36 : infoB Try.prog 36 = some (3, 24) := by kernel_rfl
theorem zv_36 : zeroV Try.prog 36 = some (.agg #[(.bool false), (.int .i64 0), (.int .i64 0)]) := by kernel_rfl
theorem zc_36 : zeroCs Try.prog 36 = some [(.bool false), (.int .i64 0), (.int .i64 0)] := by kernel_rfl
theorem zl_36 : Lits [(.bool false), (.int .i64 0), (.int .i64 0)] [(.v (.bool false)), (.v (.int .i64 0)), (.v (.int .i64 0))] := .bool _ (.int _ _ (.int _ _ (.nil)))
theorem sz_37 : sizeB Try.prog 37 = some (true, 3) := by kernel_rfl
theorem fo_37_0 : fieldOff Try.prog 37 0 = some 0 := by kernel_rfl
theorem fo_37_1 : fieldOff Try.prog 37 1 = some 1 := by kernel_rfl
theorem fo_37_2 : fieldOff Try.prog 37 2 = some 2 := by kernel_rfl
theorem pl_37 : placesB Try.prog 37 = some [(0, 1), (1, 1), (2, 1)] := by kernel_rfl
theorem zi_37 : infoB Try.prog 37 = some (3, 24) := by kernel_rfl
theorem zv_37 : zeroV Try.prog 37 = some (.agg #[(.bool false), (.int .i64 0), (.int .i64 0)]) := by kernel_rfl
theorem zc_37 : zeroCs Try.prog 37 = some [(.bool false), (.int .i64 0), (.int .i64 0)] := by kernel_rfl
theorem zl_37 : Lits [(.bool false), (.int .i64 0), (.int .i64 0)] [(.v (.bool false)), (.v (.int .i64 0)), (.v (.int .i64 0))] := .bool _ (.int _ _ (.int _ _ (.nil)))
theorem sz_38 : sizeB Try.prog 38 = some (false, 1) := by kernel_rfl
theorem zi_38 : infoB Try.prog 38 = some (1, 24) := by kernel_rfl
theorem zv_38 : zeroV Try.prog 38 = some (.slice none 0 0) := by kernel_rfl
theorem zc_38 : zeroCs Try.prog 38 = some [(.slice none 0 0)] := by kernel_rfl
theorem zl_38 : Lits [(.slice none 0 0)] [(.v (.lit (.slice none 0 0)))] := .lit _ rfl (.nil)
theorem sz_39 : sizeB Try.prog 39 = some (true, 12) := by kernel_rfl
theorem fo_39_0 : fieldOff Try.prog 39 0 = some 0 := by kernel_rfl
theorem fo_39_1 : fieldOff Try.prog 39 1 = some 1 := by kernel_rfl
theorem fo_39_2 : fieldOff Try.prog 39 2 = some 2 := by kernel_rfl
theorem fo_39_3 : fieldOff Try.prog 39 3 = some 3 := by kernel_rfl
theorem fo_39_4 : fieldOff Try.prog 39 4 = some 4 := by kernel_rfl
theorem fo_39_5 : fieldOff Try.prog 39 5 = some 5 := by kernel_rfl
theorem fo_39_6 : fieldOff Try.prog 39 6 = some 6 := by kernel_rfl
theorem fo_39_7 : fieldOff Try.prog 39 7 = some 7 := by kernel_rfl
theorem fo_39_8 : fieldOff Try.prog 39 8 = some 8 := by kernel_rfl
theorem fo_39_9 : fieldOff Try.prog 39 9 = some 9 := by kernel_rfl
theorem fo_39_10 : fieldOff Try.prog 39 10 = some 10 := by kernel_rfl
theorem fo_39_11 : fieldOff Try.prog 39 11 = some 11 := by kernel_rfl
theorem pl_39 : placesB Try.prog 39 = some [(0, 1), (1, 1), (2, 1), (3, 1), (4, 1), (5, 1), (6, 1), (7, 1), (8, 1), (9, 1), (10, 1), (11, 1)] := by kernel_rfl
theorem zi_39 : infoB Try.prog 39 = some (12, 120) := by kernel_rfl
theorem zv_39 : zeroV Try.prog 39 = some (.agg #[(.int .i64 0), (.int .i64 0), (.int .i64 0), (.string ByteArray.empty), (.int .i64 0), (.slice none 0 0), (.int .i64 0), (.int .i64 0), (.int .i64 0), (.int .i64 0), (.int .i64 0), (.bool false)]) := by kernel_rfl
theorem zc_39 : zeroCs Try.prog 39 = some [(.int .i64 0), (.int .i64 0), (.int .i64 0), (.string ByteArray.empty), (.int .i64 0), (.slice none 0 0), (.int .i64 0), (.int .i64 0), (.int .i64 0), (.int .i64 0), (.int .i64 0), (.bool false)] := by kernel_rfl
theorem zl_39 : Lits [(.int .i64 0), (.int .i64 0), (.int .i64 0), (.string ByteArray.empty), (.int .i64 0), (.slice none 0 0), (.int .i64 0), (.int .i64 0), (.int .i64 0), (.int .i64 0), (.int .i64 0), (.bool false)] [(.v (.int .i64 0)), (.v (.int .i64 0)), (.v (.int .i64 0)), (.v (.str [])), (.v (.int .i64 0)), (.v (.lit (.slice none 0 0))), (.v (.int .i64 0)), (.v (.int .i64 0)), (.v (.int .i64 0)), (.v (.int .i64 0)), (.v (.int .i64 0)), (.v (.bool false))] := .int _ _ (.int _ _ (.int _ _ (.str (.int _ _ (.lit _ rfl (.int _ _ (.int _ _ (.int _ _ (.int _ _ (.int _ _ (.bool _ (.nil))))))))))))
theorem sz_40 : sizeB Try.prog 40 = some (true, 12) := by kernel_rfl
theorem fo_40_0 : fieldOff Try.prog 40 0 = some 0 := by kernel_rfl
theorem fo_40_1 : fieldOff Try.prog 40 1 = some 1 := by kernel_rfl
theorem fo_40_2 : fieldOff Try.prog 40 2 = some 2 := by kernel_rfl
theorem fo_40_3 : fieldOff Try.prog 40 3 = some 3 := by kernel_rfl
theorem fo_40_4 : fieldOff Try.prog 40 4 = some 4 := by kernel_rfl
theorem fo_40_5 : fieldOff Try.prog 40 5 = some 5 := by kernel_rfl
theorem fo_40_6 : fieldOff Try.prog 40 6 = some 6 := by kernel_rfl
theorem fo_40_7 : fieldOff Try.prog 40 7 = some 7 := by kernel_rfl
theorem fo_40_8 : fieldOff Try.prog 40 8 = some 8 := by kernel_rfl
theorem fo_40_9 : fieldOff Try.prog 40 9 = some 9 := by kernel_rfl
theorem fo_40_10 : fieldOff Try.prog 40 10 = some 10 := by kernel_rfl
theorem fo_40_11 : fieldOff Try.prog 40 11 = some 11 := by kernel_rfl
theorem pl_40 : placesB Try.prog 40 = some [(0, 1), (1, 1), (2, 1), (3, 1), (4, 1), (5, 1), (6, 1), (7, 1), (8, 1), (9, 1), (10, 1), (11, 1)] := by kernel_rfl
theorem zi_40 : infoB Try.prog 40 = some (12, 120) := by kernel_rfl
theorem zv_40 : zeroV Try.prog 40 = some (.agg #[(.int .i64 0), (.int .i64 0), (.int .i64 0), (.string ByteArray.empty), (.int .i64 0), (.slice none 0 0), (.int .i64 0), (.int .i64 0), (.int .i64 0), (.int .i64 0), (.int .i64 0), (.bool false)]) := by kernel_rfl
theorem zc_40 : zeroCs Try.prog 40 = some [(.int .i64 0), (.int .i64 0), (.int .i64 0), (.string ByteArray.empty), (.int .i64 0), (.slice none 0 0), (.int .i64 0), (.int .i64 0), (.int .i64 0), (.int .i64 0), (.int .i64 0), (.bool false)] := by kernel_rfl
theorem zl_40 : Lits [(.int .i64 0), (.int .i64 0), (.int .i64 0), (.string ByteArray.empty), (.int .i64 0), (.slice none 0 0), (.int .i64 0), (.int .i64 0), (.int .i64 0), (.int .i64 0), (.int .i64 0), (.bool false)] [(.v (.int .i64 0)), (.v (.int .i64 0)), (.v (.int .i64 0)), (.v (.str [])), (.v (.int .i64 0)), (.v (.lit (.slice none 0 0))), (.v (.int .i64 0)), (.v (.int .i64 0)), (.v (.int .i64 0)), (.v (.int .i64 0)), (.v (.int .i64 0)), (.v (.bool false))] := .int _ _ (.int _ _ (.int _ _ (.str (.int _ _ (.lit _ rfl (.int _ _ (.int _ _ (.int _ _ (.int _ _ (.int _ _ (.bool _ (.nil))))))))))))
theorem sz_41 : sizeB Try.prog 41 = some (true, 15) := by kernel_rfl
theorem fo_41_0 : fieldOff Try.prog 41 0 = some 0 := by kernel_rfl
theorem fo_41_1 : fieldOff Try.prog 41 1 = some 12 := by kernel_rfl
theorem pl_41 : placesB Try.prog 41 = some [(0, 12), (12, 3)] := by kernel_rfl
theorem zi_41 : infoB Try.prog 41 = some (15, 144) := by kernel_rfl
theorem zv_41 : zeroV Try.prog 41 = some (.agg #[(.int .i64 0), (.int .i64 0), (.int .i64 0), (.string ByteArray.empty), (.int .i64 0), (.slice none 0 0), (.int .i64 0), (.int .i64 0), (.int .i64 0), (.int .i64 0), (.int .i64 0), (.bool false), (.bool false), (.int .i64 0), (.int .i64 0)]) := by kernel_rfl
theorem zc_41 : zeroCs Try.prog 41 = some [(.int .i64 0), (.int .i64 0), (.int .i64 0), (.string ByteArray.empty), (.int .i64 0), (.slice none 0 0), (.int .i64 0), (.int .i64 0), (.int .i64 0), (.int .i64 0), (.int .i64 0), (.bool false), (.bool false), (.int .i64 0), (.int .i64 0)] := by kernel_rfl
theorem zl_41 : Lits [(.int .i64 0), (.int .i64 0), (.int .i64 0), (.string ByteArray.empty), (.int .i64 0), (.slice none 0 0), (.int .i64 0), (.int .i64 0), (.int .i64 0), (.int .i64 0), (.int .i64 0), (.bool false), (.bool false), (.int .i64 0), (.int .i64 0)] [(.v (.int .i64 0)), (.v (.int .i64 0)), (.v (.int .i64 0)), (.v (.str [])), (.v (.int .i64 0)), (.v (.lit (.slice none 0 0))), (.v (.int .i64 0)), (.v (.int .i64 0)), (.v (.int .i64 0)), (.v (.int .i64 0)), (.v (.int .i64 0)), (.v (.bool false)), (.v (.bool false)), (.v (.int .i64 0)), (.v (.int .i64 0))] := .int _ _ (.int _ _ (.int _ _ (.str (.int _ _ (.lit _ rfl (.int _ _ (.int _ _ (.int _ _ (.int _ _ (.int _ _ (.bool _ (.bool _ (.int _ _ (.int _ _ (.nil)))))))))))))))
theorem sz_42 : sizeB Try.prog 42 = some (true, 15) := by kernel_rfl
theorem fo_42_0 : fieldOff Try.prog 42 0 = some 0 := by kernel_rfl
theorem fo_42_1 : fieldOff Try.prog 42 1 = some 12 := by kernel_rfl
theorem pl_42 : placesB Try.prog 42 = some [(0, 12), (12, 3)] := by kernel_rfl
theorem zi_42 : infoB Try.prog 42 = some (15, 144) := by kernel_rfl
theorem zv_42 : zeroV Try.prog 42 = some (.agg #[(.int .i64 0), (.int .i64 0), (.int .i64 0), (.string ByteArray.empty), (.int .i64 0), (.slice none 0 0), (.int .i64 0), (.int .i64 0), (.int .i64 0), (.int .i64 0), (.int .i64 0), (.bool false), (.bool false), (.int .i64 0), (.int .i64 0)]) := by kernel_rfl
theorem zc_42 : zeroCs Try.prog 42 = some [(.int .i64 0), (.int .i64 0), (.int .i64 0), (.string ByteArray.empty), (.int .i64 0), (.slice none 0 0), (.int .i64 0), (.int .i64 0), (.int .i64 0), (.int .i64 0), (.int .i64 0), (.bool false), (.bool false), (.int .i64 0), (.int .i64 0)] := by kernel_rfl
theorem zl_42 : Lits [(.int .i64 0), (.int .i64 0), (.int .i64 0), (.string ByteArray.empty), (.int .i64 0), (.slice none 0 0), (.int .i64 0), (.int .i64 0), (.int .i64 0), (.int .i64 0), (.int .i64 0), (.bool false), (.bool false), (.int .i64 0), (.int .i64 0)] [(.v (.int .i64 0)), (.v (.int .i64 0)), (.v (.int .i64 0)), (.v (.str [])), (.v (.int .i64 0)), (.v (.lit (.slice none 0 0))), (.v (.int .i64 0)), (.v (.int .i64 0)), (.v (.int .i64 0)), (.v (.int .i64 0)), (.v (.int .i64 0)), (.v (.bool false)), (.v (.bool false)), (.v (.int .i64 0)), (.v (.int .i64 0))] := .int _ _ (.int _ _ (.int _ _ (.str (.int _ _ (.lit _ rfl (.int _ _ (.int _ _ (.int _ _ (.int _ _ (.int _ _ (.bool _ (.bool _ (.int _ _ (.int _ _ (.nil)))))))))))))))
theorem sz_43 : sizeB Try.prog 43 = some (false, 1) := by kernel_rfl
theorem zi_43 : infoB Try.prog 43 = some (1, 8) := by kernel_rfl
theorem zv_43 : zeroV Try.prog 43 = some .nilFunc := by kernel_rfl
theorem zc_43 : zeroCs Try.prog 43 = some [.nilFunc] := by kernel_rfl
theorem zl_43 : Lits [.nilFunc] [(.v (.lit .nilFunc))] := .lit _ rfl (.nil)
theorem sz_44 : sizeB Try.prog 44 = some (false, 1) := by kernel_rfl
theorem zi_44 : infoB Try.prog 44 = some (1, 24) := by kernel_rfl
theorem zv_44 : zeroV Try.prog 44 = some (.slice none 0 0) := by kernel_rfl
theorem zc_44 : zeroCs Try.prog 44 = some [(.slice none 0 0)] := by kernel_rfl
theorem zl_44 : Lits [(.slice none 0 0)] [(.v (.lit (.slice none 0 0)))] := .lit _ rfl (.nil)
theorem sz_45 : sizeB Try.prog 45 = some (false, 1) := by kernel_rfl
theorem zi_45 : infoB Try.prog 45 = some (1, 2) := by kernel_rfl
theorem zv_45 : zeroV Try.prog 45 = some (.int .u16 0) := by kernel_rfl
theorem zc_45 : zeroCs Try.prog 45 = some [(.int .u16 0)] := by kernel_rfl
theorem zl_45 : Lits [(.int .u16 0)] [(.v (.int .u16 0))] := .int _ _ (.nil)
theorem sz_46 : sizeB Try.prog 46 = some (false, 1) := by kernel_rfl
theorem zi_46 : infoB Try.prog 46 = some (1, 8) := by kernel_rfl
theorem zv_46 : zeroV Try.prog 46 = some (.int .i64 0) := by kernel_rfl
theorem zc_46 : zeroCs Try.prog 46 = some [(.int .i64 0)] := by kernel_rfl
theorem zl_46 : Lits [(.int .i64 0)] [(.v (.int .i64 0))] := .int _ _ (.nil)
theorem sz_47 : sizeB Try.prog 47 = some (false, 1) := by kernel_rfl
theorem sz_48 : sizeB Try.prog 48 = some (false, 1) := by kernel_rfl
theorem zi_48 : infoB Try.prog 48 = some (1, 8) := by kernel_rfl
theorem zv_48 : zeroV Try.prog 48 = some .nilFunc := by kernel_rfl
theorem zc_48 : zeroCs Try.prog 48 = some [.nilFunc] := by kernel_rfl
theorem zl_48 : Lits [.nilFunc] [(.v (.lit .nilFunc))] := .lit _ rfl (.nil)
theorem sz_49 : sizeB Try.prog 49 = some (false, 1) := by kernel_rfl
theorem sz_50 : sizeB Try.prog 50 = some (false, 1) := by kernel_rfl
theorem zi_50 : infoB Try.prog 50 = some (1, 8) := by kernel_rfl
theorem zv_50 : zeroV Try.prog 50 = some .nilFunc := by kernel_rfl
theorem zc_50 : zeroCs Try.prog 50 = some [.nilFunc] := by kernel_rfl
theorem zl_50 : Lits [.nilFunc] [(.v (.lit .nilFunc))] := .lit _ rfl (.nil)
theorem sz_51 : sizeB Try.prog 51 = some (false, 1) := by kernel_rfl
theorem zi_51 : infoB Try.prog 51 = some (1, 8) := by kernel_rfl
theorem zv_51 : zeroV Try.prog 51 = some .nilFunc := by kernel_rfl
theorem zc_51 : zeroCs Try.prog 51 = some [.nilFunc] := by kernel_rfl
theorem zl_51 : Lits [.nilFunc] [(.v (.lit .nilFunc))] := .lit _ rfl (.nil)
theorem sz_52 : sizeB Try.prog 52 = some (false, 1) := by kernel_rfl
theorem zi_52 : infoB Try.prog 52 = some (1, 8) := by kernel_rfl
theorem zv_52 : zeroV Try.prog 52 = some .nilFunc := by kernel_rfl
theorem zc_52 : zeroCs Try.prog 52 = some [.nilFunc] := by kernel_rfl
theorem zl_52 : Lits [.nilFunc] [(.v (.lit .nilFunc))] := .lit _ rfl (.nil)
theorem sz_53 : sizeB Try.prog 53 = some (true, 4) := by kernel_rfl
theorem fo_53_0 : fieldOff Try.prog 53 0 = some 0 := by kernel_rfl
theorem fo_53_1 : fieldOff Try.prog 53 1 = some 1 := by kernel_rfl
theorem fo_53_2 : fieldOff Try.prog 53 2 = some 2 := by kernel_rfl
theorem fo_53_3 : fieldOff Try.prog 53 3 = some 3 := by kernel_rfl
theorem pl_53 : placesB Try.prog 53 = some [(0, 1), (1, 1), (2, 1), (3, 1)] := by kernel_rfl
theorem zi_53 : infoB Try.prog 53 = some (4, 48) := by kernel_rfl
theorem zv_53 : zeroV Try.prog 53 = some (.agg #[(.int .i64 0), (.int .i64 0), (.slice none 0 0), (.bool false)]) := by kernel_rfl
theorem zc_53 : zeroCs Try.prog 53 = some [(.int .i64 0), (.int .i64 0), (.slice none 0 0), (.bool false)] := by kernel_rfl
theorem zl_53 : Lits [(.int .i64 0), (.int .i64 0), (.slice none 0 0), (.bool false)] [(.v (.int .i64 0)), (.v (.int .i64 0)), (.v (.lit (.slice none 0 0))), (.v (.bool false))] := .int _ _ (.int _ _ (.lit _ rfl (.bool _ (.nil))))
theorem sz_54 : sizeB Try.prog 54 = some (true, 4) := by kernel_rfl
theorem fo_54_0 : fieldOff Try.prog 54 0 = some 0 := by kernel_rfl
theorem fo_54_1 : fieldOff Try.prog 54 1 = some 1 := by kernel_rfl
theorem fo_54_2 : fieldOff Try.prog 54 2 = some 2 := by kernel_rfl
theorem fo_54_3 : fieldOff Try.prog 54 3 = some 3 := by kernel_rfl
theorem pl_54 : placesB Try.prog 54 = some [(0, 1), (1, 1), (2, 1), (3, 1)] := by kernel_rfl
theorem zi_54 : infoB Try.prog 54 = some (4, 48) := by kernel_rfl
theorem zv_54 : zeroV Try.prog 54 = some (.agg #[(.int .i64 0), (.int .i64 0), (.slice none 0 0), (.bool false)]) := by kernel_rfl
theorem zc_54 : zeroCs Try.prog 54 = some [(.int .i64 0), (.int .i64 0), (.slice none 0 0), (.bool false)] := by kernel_rfl
theorem zl_54 : Lits [(.int .i64 0), (.int .i64 0), (.slice none 0 0), (.bool false)] [(.v (.int .i64 0)), (.v (.int .i64 0)), (.v (.lit (.slice none 0 0))), (.v (.bool false))] := .int _ _ (.int _ _ (.lit _ rfl (.bool _ (.nil))))
theorem sz_55 : sizeB Try.prog 55 = some (false, 1) := by kernel_rfl
theorem zi_55 : infoB Try.prog 55 = some (1, 8) := by kernel_rfl
theorem zv_55 : zeroV Try.prog 55 = some .nilFunc := by kernel_rfl
theorem zc_55 : zeroCs Try.prog 55 = some [.nilFunc] := by kernel_rfl
theorem zl_55 : Lits [.nilFunc] [(.v (.lit .nilFunc))] := .lit _ rfl (.nil)
theorem sz_56 : sizeB Try.prog 56 = some (false, 1) := by kernel_rfl
theorem zi_56 : infoB Try.prog 56 = some (1, 8) := by kernel_rfl
theorem zv_56 : zeroV Try.prog 56 = some .nilFunc := by kernel_rfl
theorem zc_56 : zeroCs Try.prog 56 = some [.nilFunc] := by kernel_rfl
theorem zl_56 : Lits [.nilFunc] [(.v (.lit .nilFunc))] := .lit _ rfl (.nil)
theorem sz_57 : sizeB Try.prog 57 = some (false, 1) := by kernel_rfl
theorem zi_57 : infoB Try.prog 57 = some (1, 8) := by kernel_rfl
theorem zv_57 : zeroV Try.prog 57 = some .nilFunc := by kernel_rfl
theorem zc_57 : zeroCs Try.prog 57 = some [.nilFunc] := by kernel_rfl
theorem zl_57 : Lits [.nilFunc] [(.v (.lit .nilFunc))] := .lit _ rfl (.nil)
theorem sz_58 : sizeB Try.prog 58 = some (false, 1) := by kernel_rfl
theorem zi_58 : infoB Try.prog 58 = some (1, 8) := by kernel_rfl
theorem zv_58 : zeroV Try.prog 58 = some .nilFunc := by kernel_rfl
theorem zc_58 : zeroCs Try.prog 58 = some [.nilFunc] := by kernel_rfl
theorem zl_58 : Lits [.nilFunc] [(.v (.lit .nilFunc))] := .lit _ rfl (.nil)
theorem sz_59 : sizeB Try.prog 59 = some (false, 1) := by kernel_rfl
theorem zi_59 : infoB Try.prog 59 = some (1, 8) := by kernel_rfl
theorem zv_59 : zeroV Try.prog 59 = some .nilFunc := by kernel_rfl
theorem zc_59 : zeroCs Try.prog 59 = some [.nilFunc] := by kernel_rfl
theorem zl_59 : Lits [.nilFunc] [(.v (.lit .nilFunc))] := .lit _ rfl (.nil)
theorem sz_60 : sizeB Try.prog 60 = some (false, 1) := by kernel_rfl
theorem zi_60 : infoB Try.prog 60 = some (1, 8) := by kernel_rfl
theorem zv_60 : zeroV Try.prog 60 = some .nilFunc := by kernel_rfl
theorem zc_60 : zeroCs Try.prog 60 = some [.nilFunc] := by kernel_rfl
theorem zl_60 : Lits [.nilFunc] [(.v (.lit .nilFunc))] := .lit _ rfl (.nil)
theorem sz_61 : sizeB Try.prog 61 = some (false, 1) := by kernel_rfl
theorem zi_61 : infoB Try.prog 61 = some (1, 8) := by kernel_rfl
theorem zv_61 : zeroV Try.prog 61 = some .nilFunc := by kernel_rfl
theorem zc_61 : zeroCs Try.prog 61 = some [.nilFunc] := by kernel_rfl
theorem zl_61 : Lits [.nilFunc] [(.v (.lit .nilFunc))] := .lit _ rfl (.nil)
theorem sz_62 : sizeB Try.prog 62 = some (false, 1) := by kernel_rfl
theorem zi_62 : infoB Try.prog 62 = some (1, 4) := by kernel_rfl
theorem zv_62 : zeroV Try.prog 62 = some (.int .u32 0) := by kernel_rfl
theorem zc_62 : zeroCs Try.prog 62 = some [(.int .u32 0)] := by kernel_rfl
theorem zl_62 : Lits [(.int .u32 0)] [(.v (.int .u32 0))] := .int _ _ (.nil)
theorem sz_63 : sizeB Try.prog 63 = some (false, 1) := by kernel_rfl
theorem zi_63 : infoB Try.prog 63 = some (1, 8) := by kernel_rfl
theorem zv_63 : zeroV Try.prog 63 = some .nilFunc := by kernel_rfl
theorem zc_63 : zeroCs Try.prog 63 = some [.nilFunc] := by kernel_rfl
theorem zl_63 : Lits [.nilFunc] [(.v (.lit .nilFunc))] := .lit _ rfl (.nil)
theorem sz_64 : sizeB Try.prog 64 = some (false, 1) := by kernel_rfl
theorem zi_64 : infoB Try.prog 64 = some (1, 8) := by kernel_rfl
theorem zv_64 : zeroV Try.prog 64 = some .nilFunc := by kernel_rfl
theorem zc_64 : zeroCs Try.prog 64 = some [.nilFunc] := by kernel_rfl
theorem zl_64 : Lits [.nilFunc] [(.v (.lit .nilFunc))] := .lit _ rfl (.nil)
theorem sz_65 : sizeB Try.prog 65 = some (false, 1) := by kernel_rfl
theorem zi_65 : infoB Try.prog 65 = some (1, 8) := by kernel_rfl
theorem zv_65 : zeroV Try.prog 65 = some .nilFunc := by kernel_rfl
theorem zc_65 : zeroCs Try.prog 65 = some [.nilFunc] := by kernel_rfl
theorem zl_65 : Lits [.nilFunc] [(.v (.lit .nilFunc))] := .lit _ rfl (.nil)
theorem sz_66 : sizeB Try.prog 66 = some (false, 1) := by kernel_rfl
theorem zi_66 : infoB Try.prog 66 = some (1, 8) := by kernel_rfl
theorem zv_66 : zeroV Try.prog 66 = some .nilFunc := by kernel_rfl
theorem zc_66 : zeroCs Try.prog 66 = some [.nilFunc] := by kernel_rfl
theorem zl_66 : Lits [.nilFunc] [(.v (.lit .nilFunc))] := .lit _ rfl (.nil)
theorem sz_67 : sizeB Try.prog 67 = some (false, 1) := by kernel_rfl
theorem sz_68 : sizeB Try.prog 68 = some (false, 1) := by kernel_rfl
theorem zi_68 : infoB Try.prog 68 = some (1, 8) := by kernel_rfl
theorem zv_68 : zeroV Try.prog 68 = some .nilFunc := by kernel_rfl
theorem zc_68 : zeroCs Try.prog 68 = some [.nilFunc] := by kernel_rfl
theorem zl_68 : Lits [.nilFunc] [(.v (.lit .nilFunc))] := .lit _ rfl (.nil)
theorem sz_69 : sizeB Try.prog 69 = some (true, 2) := by kernel_rfl
theorem fo_69_0 : fieldOff Try.prog 69 0 = some 0 := by kernel_rfl
theorem fo_69_1 : fieldOff Try.prog 69 1 = some 1 := by kernel_rfl
theorem pl_69 : placesB Try.prog 69 = some [(0, 1), (1, 1)] := by kernel_rfl
theorem zi_69 : infoB Try.prog 69 = some (2, 16) := by kernel_rfl
theorem zv_69 : zeroV Try.prog 69 = some (.agg #[(.int .i64 0), (.int .i64 0)]) := by kernel_rfl
theorem zc_69 : zeroCs Try.prog 69 = some [(.int .i64 0), (.int .i64 0)] := by kernel_rfl
theorem zl_69 : Lits [(.int .i64 0), (.int .i64 0)] [(.v (.int .i64 0)), (.v (.int .i64 0))] := .int _ _ (.int _ _ (.nil))
theorem sz_70 : sizeB Try.prog 70 = some (true, 2) := by kernel_rfl
theorem fo_70_0 : fieldOff Try.prog 70 0 = some 0 := by kernel_rfl
theorem fo_70_1 : fieldOff Try.prog 70 1 = some 1 := by kernel_rfl
theorem pl_70 : placesB Try.prog 70 = some [(0, 1), (1, 1)] := by kernel_rfl
theorem zi_70 : infoB Try.prog 70 = some (2, 16) := by kernel_rfl
theorem zv_70 : zeroV Try.prog 70 = some (.agg #[(.int .i64 0), (.int .i64 0)]) := by kernel_rfl
theorem zc_70 : zeroCs Try.prog 70 = some [(.int .i64 0), (.int .i64 0)] := by kernel_rfl
theorem zl_70 : Lits [(.int .i64 0), (.int .i64 0)] [(.v (.int .i64 0)), (.v (.int .i64 0))] := .int _ _ (.int _ _ (.nil))
theorem sz_71 : sizeB Try.prog 71 = some (false, 1) := by kernel_rfl
theorem zi_71 : infoB Try.prog 71 = some (1, 8) := by kernel_rfl
theorem zv_71 : zeroV Try.prog 71 = some .nilFunc := by kernel_rfl
theorem zc_71 : zeroCs Try.prog 71 = some [.nilFunc] := by kernel_rfl
theorem zl_71 : Lits [.nilFunc] [(.v (.lit .nilFunc))] := .lit _ rfl (.nil)
theorem sz_72 : sizeB Try.prog 72 = some (false, 1) := by kernel_rfl
theorem zi_72 : infoB Try.prog 72 = some (1, 8) := by kernel_rfl
theorem zv_72 : zeroV Try.prog 72 = some .nilFunc := by kernel_rfl
theorem zc_72 : zeroCs Try.prog 72 = some [.nilFunc] := by kernel_rfl
theorem zl_72 : Lits [.nilFunc] [(.v (.lit .nilFunc))] := .lit _ rfl (.nil)
theorem sz_73 : sizeB Try.prog 73 = some (false, 1) := by kernel_rfl
theorem sz_74 : sizeB Try.prog 74 = some (false, 1) := by kernel_rfl
theorem zi_74 : infoB Try.prog 74 = some (1, 8) := by kernel_rfl
theorem zv_74 : zeroV Try.prog 74 = some .nilFunc := by kernel_rfl
theorem zc_74 : zeroCs Try.prog 74 = some [.nilFunc] := by kernel_rfl
theorem zl_74 : Lits [.nilFunc] [(.v (.lit .nilFunc))] := .lit _ rfl (.nil)
theorem sz_75 : sizeB Try.prog 75 = some (false, 1) := by kernel_rfl
theorem zi_75 : infoB Try.prog 75 = some (1, 8) := by kernel_rfl
theorem zv_75 : zeroV Try.prog 75 = some .nilFunc := by kernel_rfl
theorem zc_75 : zeroCs Try.prog 75 = some [.nilFunc] := by kernel_rfl
theorem zl_75 : Lits [.nilFunc] [(.v (.lit .nilFunc))] := .lit _ rfl (.nil)
theorem sz_76 : sizeB Try.prog 76 = some (false, 1) := by kernel_rfl
theorem zi_76 : infoB Try.prog 76 = some (1, 8) := by kernel_rfl
theorem zv_76 : zeroV Try.prog 76 = some .nilFunc := by kernel_rfl
theorem zc_76 : zeroCs Try.prog 76 = some [.nilFunc] := by kernel_rfl
theorem zl_76 : Lits [.nilFunc] [(.v (.lit .nilFunc))] := .lit _ rfl (.nil)
theorem sz_77 : sizeB Try.prog 77 = some (false, 1) := by kernel_rfl
theorem zi_77 : infoB Try.prog 77 = some (1, 8) := by kernel_rfl
theorem zv_77 : zeroV Try.prog 77 = some .nilFunc := by kernel_rfl
theorem zc_77 : zeroCs Try.prog 77 = some [.nilFunc] := by kernel_rfl
theorem zl_77 : Lits [.nilFunc] [(.v (.lit .nilFunc))] := .lit _ rfl (.nil)
theorem sz_78 : sizeB Try.prog 78 = some (false, 1) := by kernel_rfl
theorem zi_78 : infoB Try.prog 78 = some (1, 8) := by kernel_rfl
theorem zv_78 : zeroV Try.prog 78 = some .nilFunc := by kernel_rfl
theorem zc_78 : zeroCs Try.prog 78 = some [.nilFunc] := by kernel_rfl
theorem zl_78 : Lits [.nilFunc] [(.v (.lit .nilFunc))] := .lit _ rfl (.nil)
theorem sz_79 : sizeB Try.prog 79 = some (false, 1) := by kernel_rfl
theorem zi_79 : infoB Try.prog 79 = some (1, 8) := by kernel_rfl
theorem zv_79 : zeroV Try.prog 79 = some (.pointer none) := by kernel_rfl
theorem zc_79 : zeroCs Try.prog 79 = some [(.pointer none)] := by kernel_rfl
theorem zl_79 : Lits [(.pointer none)] [(.v (.lit (.pointer none)))] := .lit _ rfl (.nil)
theorem sz_80 : sizeB Try.prog 80 = some (false, 1) := by kernel_rfl
theorem zi_80 : infoB Try.prog 80 = some (1, 8) := by kernel_rfl
theorem zv_80 : zeroV Try.prog 80 = some .nilFunc := by kernel_rfl
theorem zc_80 : zeroCs Try.prog 80 = some [.nilFunc] := by kernel_rfl
theorem zl_80 : Lits [.nilFunc] [(.v (.lit .nilFunc))] := .lit _ rfl (.nil)
theorem sz_81 : sizeB Try.prog 81 = some (false, 1) := by kernel_rfl
theorem zi_81 : infoB Try.prog 81 = some (1, 8) := by kernel_rfl
theorem zv_81 : zeroV Try.prog 81 = some (.int .u64 0) := by kernel_rfl
theorem zc_81 : zeroCs Try.prog 81 = some [(.int .u64 0)] := by kernel_rfl
theorem zl_81 : Lits [(.int .u64 0)] [(.v (.int .u64 0))] := .int _ _ (.nil)
theorem sz_82 : sizeB Try.prog 82 = some (true, 9) := by kernel_rfl
theorem pl_82 : placesB Try.prog 82 = some [(0, 1), (1, 1), (2, 1), (3, 1), (4, 1), (5, 1), (6, 1), (7, 1), (8, 1)] := by kernel_rfl
theorem zi_82 : infoB Try.prog 82 = some (9, 72) := by kernel_rfl
theorem zv_82 : zeroV Try.prog 82 = some (.agg #[(.int .i64 0), (.int .i64 0), (.int .i64 0), (.int .i64 0), (.int .i64 0), (.int .i64 0), (.int .i64 0), (.int .i64 0), (.int .i64 0)]) := by kernel_rfl
theorem zc_82 : zeroCs Try.prog 82 = some [(.int .i64 0), (.int .i64 0), (.int .i64 0), (.int .i64 0), (.int .i64 0), (.int .i64 0), (.int .i64 0), (.int .i64 0), (.int .i64 0)] := by kernel_rfl
theorem zl_82 : Lits [(.int .i64 0), (.int .i64 0), (.int .i64 0), (.int .i64 0), (.int .i64 0), (.int .i64 0), (.int .i64 0), (.int .i64 0), (.int .i64 0)] [(.v (.int .i64 0)), (.v (.int .i64 0)), (.v (.int .i64 0)), (.v (.int .i64 0)), (.v (.int .i64 0)), (.v (.int .i64 0)), (.v (.int .i64 0)), (.v (.int .i64 0)), (.v (.int .i64 0))] := .int _ _ (.int _ _ (.int _ _ (.int _ _ (.int _ _ (.int _ _ (.int _ _ (.int _ _ (.int _ _ (.nil)))))))))
theorem sz_83 : sizeB Try.prog 83 = some (false, 1) := by kernel_rfl
theorem zi_83 : infoB Try.prog 83 = some (1, 8) := by kernel_rfl
theorem zv_83 : zeroV Try.prog 83 = some .nilFunc := by kernel_rfl
theorem zc_83 : zeroCs Try.prog 83 = some [.nilFunc] := by kernel_rfl
theorem zl_83 : Lits [.nilFunc] [(.v (.lit .nilFunc))] := .lit _ rfl (.nil)
theorem sz_84 : sizeB Try.prog 84 = some (false, 1) := by kernel_rfl
theorem zi_84 : infoB Try.prog 84 = some (1, 8) := by kernel_rfl
theorem zv_84 : zeroV Try.prog 84 = some .nilFunc := by kernel_rfl
theorem zc_84 : zeroCs Try.prog 84 = some [.nilFunc] := by kernel_rfl
theorem zl_84 : Lits [.nilFunc] [(.v (.lit .nilFunc))] := .lit _ rfl (.nil)
theorem sz_85 : sizeB Try.prog 85 = some (false, 1) := by kernel_rfl
theorem zi_85 : infoB Try.prog 85 = some (1, 8) := by kernel_rfl
theorem zv_85 : zeroV Try.prog 85 = some .nilFunc := by kernel_rfl
theorem zc_85 : zeroCs Try.prog 85 = some [.nilFunc] := by kernel_rfl
theorem zl_85 : Lits [.nilFunc] [(.v (.lit .nilFunc))] := .lit _ rfl (.nil)
theorem sz_86 : sizeB Try.prog 86 = some (true, 4) := by kernel_rfl
theorem fo_86_0 : fieldOff Try.prog 86 0 = some 0 := by kernel_rfl
theorem fo_86_1 : fieldOff Try.prog 86 1 = some 1 := by kernel_rfl
theorem fo_86_2 : fieldOff Try.prog 86 2 = some 2 := by kernel_rfl
theorem fo_86_3 : fieldOff Try.prog 86 3 = some 3 := by kernel_rfl
theorem pl_86 : placesB Try.prog 86 = some [(0, 1), (1, 1), (2, 1), (3, 1)] := by kernel_rfl
theorem zi_86 : infoB Try.prog 86 = some (4, 40) := by kernel_rfl
theorem zv_86 : zeroV Try.prog 86 = some (.agg #[(.pointer none), (.pointer none), (.pointer none), (.string ByteArray.empty)]) := by kernel_rfl
theorem zc_86 : zeroCs Try.prog 86 = some [(.pointer none), (.pointer none), (.pointer none), (.string ByteArray.empty)] := by kernel_rfl
theorem zl_86 : Lits [(.pointer none), (.pointer none), (.pointer none), (.string ByteArray.empty)] [(.v (.lit (.pointer none))), (.v (.lit (.pointer none))), (.v (.lit (.pointer none))), (.v (.str []))] := .lit _ rfl (.lit _ rfl (.lit _ rfl (.str (.nil))))
theorem sz_87 : sizeB Try.prog 87 = some (true, 4) := by kernel_rfl
theorem fo_87_0 : fieldOff Try.prog 87 0 = some 0 := by kernel_rfl
theorem fo_87_1 : fieldOff Try.prog 87 1 = some 1 := by kernel_rfl
theorem fo_87_2 : fieldOff Try.prog 87 2 = some 2 := by kernel_rfl
theorem fo_87_3 : fieldOff Try.prog 87 3 = some 3 := by kernel_rfl
theorem pl_87 : placesB Try.prog 87 = some [(0, 1), (1, 1), (2, 1), (3, 1)] := by kernel_rfl
theorem zi_87 : infoB Try.prog 87 = some (4, 40) := by kernel_rfl
theorem zv_87 : zeroV Try.prog 87 = some (.agg #[(.pointer none), (.pointer none), (.pointer none), (.string ByteArray.empty)]) := by kernel_rfl
theorem zc_87 : zeroCs Try.prog 87 = some [(.pointer none), (.pointer none), (.pointer none), (.string ByteArray.empty)] := by kernel_rfl
theorem zl_87 : Lits [(.pointer none), (.pointer none), (.pointer none), (.string ByteArray.empty)] [(.v (.lit (.pointer none))), (.v (.lit (.pointer none))), (.v (.lit (.pointer none))), (.v (.str []))] := .lit _ rfl (.lit _ rfl (.lit _ rfl (.str (.nil))))
theorem sz_88 : sizeB Try.prog 88 = some (true, 0) := by kernel_rfl
theorem pl_88 : placesB Try.prog 88 = some [] := by kernel_rfl
theorem zv_88 : zeroV Try.prog 88 = some (.agg #[]) := by kernel_rfl
theorem zc_88 : zeroCs Try.prog 88 = some [] := by kernel_rfl
theorem zl_88 : Lits [] [] := .nil
theorem sz_89 : sizeB Try.prog 89 = some (true, 0) := by kernel_rfl
theorem pl_89 : placesB Try.prog 89 = some [(0, 0)] := by kernel_rfl
theorem zv_89 : zeroV Try.prog 89 = some (.agg #[]) := by kernel_rfl
theorem zc_89 : zeroCs Try.prog 89 = some [] := by kernel_rfl
theorem zl_89 : Lits [] [] := .nil
theorem sz_90 : sizeB Try.prog 90 = some (true, 0) := by kernel_rfl
theorem pl_90 : placesB Try.prog 90 = some [(0, 0)] := by kernel_rfl
theorem zv_90 : zeroV Try.prog 90 = some (.agg #[]) := by kernel_rfl
theorem zc_90 : zeroCs Try.prog 90 = some [] := by kernel_rfl
theorem zl_90 : Lits [] [] := .nil
theorem sz_91 : sizeB Try.prog 91 = some (false, 1) := by kernel_rfl
theorem zi_91 : infoB Try.prog 91 = some (1, 1) := by kernel_rfl
theorem by_91 : byteB Try.prog 91 = true := by kernel_rfl
theorem zv_91 : zeroV Try.prog 91 = some (.int .u8 0) := by kernel_rfl
theorem zc_91 : zeroCs Try.prog 91 = some [(.int .u8 0)] := by kernel_rfl
theorem zl_91 : Lits [(.int .u8 0)] [(.v (.int .u8 0))] := .int _ _ (.nil)
theorem sz_92 : sizeB Try.prog 92 = some (false, 1) := by kernel_rfl
theorem zi_92 : infoB Try.prog 92 = some (1, 1) := by kernel_rfl
theorem by_92 : byteB Try.prog 92 = true := by kernel_rfl
theorem zv_92 : zeroV Try.prog 92 = some (.int .u8 0) := by kernel_rfl
theorem zc_92 : zeroCs Try.prog 92 = some [(.int .u8 0)] := by kernel_rfl
theorem zl_92 : Lits [(.int .u8 0)] [(.v (.int .u8 0))] := .int _ _ (.nil)
theorem sz_93 : sizeB Try.prog 93 = some (false, 1) := by kernel_rfl
theorem zi_93 : infoB Try.prog 93 = some (1, 8) := by kernel_rfl
theorem zv_93 : zeroV Try.prog 93 = some .nilFunc := by kernel_rfl
theorem zc_93 : zeroCs Try.prog 93 = some [.nilFunc] := by kernel_rfl
theorem zl_93 : Lits [.nilFunc] [(.v (.lit .nilFunc))] := .lit _ rfl (.nil)
theorem sz_94 : sizeB Try.prog 94 = some (false, 1) := by kernel_rfl
theorem zi_94 : infoB Try.prog 94 = some (1, 8) := by kernel_rfl
theorem zv_94 : zeroV Try.prog 94 = some (.pointer none) := by kernel_rfl
theorem zc_94 : zeroCs Try.prog 94 = some [(.pointer none)] := by kernel_rfl
theorem zl_94 : Lits [(.pointer none)] [(.v (.lit (.pointer none)))] := .lit _ rfl (.nil)
theorem sz_95 : sizeB Try.prog 95 = some (false, 1) := by kernel_rfl
theorem zi_95 : infoB Try.prog 95 = some (1, 4) := by kernel_rfl
theorem zv_95 : zeroV Try.prog 95 = some (.int .i32 0) := by kernel_rfl
theorem zc_95 : zeroCs Try.prog 95 = some [(.int .i32 0)] := by kernel_rfl
theorem zl_95 : Lits [(.int .i32 0)] [(.v (.int .i32 0))] := .int _ _ (.nil)
theorem sz_96 : sizeB Try.prog 96 = some (false, 1) := by kernel_rfl
theorem zi_96 : infoB Try.prog 96 = some (1, 4) := by kernel_rfl
theorem zv_96 : zeroV Try.prog 96 = some (.int .i32 0) := by kernel_rfl
theorem zc_96 : zeroCs Try.prog 96 = some [(.int .i32 0)] := by kernel_rfl
theorem zl_96 : Lits [(.int .i32 0)] [(.v (.int .i32 0))] := .int _ _ (.nil)
theorem sz_97 : sizeB Try.prog 97 = some (true, 11) := by kernel_rfl
theorem fo_97_0 : fieldOff Try.prog 97 0 = some 0 := by kernel_rfl
theorem fo_97_1 : fieldOff Try.prog 97 1 = some 1 := by kernel_rfl
theorem fo_97_2 : fieldOff Try.prog 97 2 = some 2 := by kernel_rfl
theorem fo_97_3 : fieldOff Try.prog 97 3 = some 3 := by kernel_rfl
theorem fo_97_4 : fieldOff Try.prog 97 4 = some 4 := by kernel_rfl
theorem fo_97_5 : fieldOff Try.prog 97 5 = some 5 := by kernel_rfl
theorem fo_97_6 : fieldOff Try.prog 97 6 = some 6 := by kernel_rfl
theorem fo_97_7 : fieldOff Try.prog 97 7 = some 7 := by kernel_rfl
theorem fo_97_8 : fieldOff Try.prog 97 8 = some 8 := by kernel_rfl
theorem fo_97_9 : fieldOff Try.prog 97 9 = some 9 := by kernel_rfl
theorem fo_97_10 : fieldOff Try.prog 97 10 = some 10 := by kernel_rfl
theorem pl_97 : placesB Try.prog 97 = some [(0, 1), (1, 1), (2, 1), (3, 1), (4, 1), (5, 1), (6, 1), (7, 1), (8, 1), (9, 1), (10, 1)] := by kernel_rfl
theorem zi_97 : infoB Try.prog 97 = some (11, 48) := by kernel_rfl
theorem zv_97 : zeroV Try.prog 97 = some (.agg #[(.int .u64 0), (.int .u64 0), (.int .u32 0), (.int .u8 0), (.int .u8 0), (.int .u8 0), (.int .u8 0), .nilFunc, (.pointer none), (.int .i32 0), (.int .i32 0)]) := by kernel_rfl
theorem zc_97 : zeroCs Try.prog 97 = some [(.int .u64 0), (.int .u64 0), (.int .u32 0), (.int .u8 0), (.int .u8 0), (.int .u8 0), (.int .u8 0), .nilFunc, (.pointer none), (.int .i32 0), (.int .i32 0)] := by kernel_rfl
theorem zl_97 : Lits [(.int .u64 0), (.int .u64 0), (.int .u32 0), (.int .u8 0), (.int .u8 0), (.int .u8 0), (.int .u8 0), .nilFunc, (.pointer none), (.int .i32 0), (.int .i32 0)] [(.v (.int .u64 0)), (.v (.int .u64 0)), (.v (.int .u32 0)), (.v (.int .u8 0)), (.v (.int .u8 0)), (.v (.int .u8 0)), (.v (.int .u8 0)), (.v (.lit .nilFunc)), (.v (.lit (.pointer none))), (.v (.int .i32 0)), (.v (.int .i32 0))] := .int _ _ (.int _ _ (.int _ _ (.int _ _ (.int _ _ (.int _ _ (.int _ _ (.lit _ rfl (.lit _ rfl (.int _ _ (.int _ _ (.nil)))))))))))
theorem sz_98 : sizeB Try.prog 98 = some (true, 11) := by kernel_rfl
theorem fo_98_0 : fieldOff Try.prog 98 0 = some 0 := by kernel_rfl
theorem fo_98_1 : fieldOff Try.prog 98 1 = some 1 := by kernel_rfl
theorem fo_98_2 : fieldOff Try.prog 98 2 = some 2 := by kernel_rfl
theorem fo_98_3 : fieldOff Try.prog 98 3 = some 3 := by kernel_rfl
theorem fo_98_4 : fieldOff Try.prog 98 4 = some 4 := by kernel_rfl
theorem fo_98_5 : fieldOff Try.prog 98 5 = some 5 := by kernel_rfl
theorem fo_98_6 : fieldOff Try.prog 98 6 = some 6 := by kernel_rfl
theorem fo_98_7 : fieldOff Try.prog 98 7 = some 7 := by kernel_rfl
theorem fo_98_8 : fieldOff Try.prog 98 8 = some 8 := by kernel_rfl
theorem fo_98_9 : fieldOff Try.prog 98 9 = some 9 := by kernel_rfl
theorem fo_98_10 : fieldOff Try.prog 98 10 = some 10 := by kernel_rfl
theorem pl_98 : placesB Try.prog 98 = some [(0, 1), (1, 1), (2, 1), (3, 1), (4, 1), (5, 1), (6, 1), (7, 1), (8, 1), (9, 1), (10, 1)] := by kernel_rfl
theorem zi_98 : infoB Try.prog 98 = some (11, 48) := by kernel_rfl
theorem zv_98 : zeroV Try.prog 98 = some (.agg #[(.int .u64 0), (.int .u64 0), (.int .u32 0), (.int .u8 0), (.int .u8 0), (.int .u8 0), (.int .u8 0), .nilFunc, (.pointer none), (.int .i32 0), (.int .i32 0)]) := by kernel_rfl
theorem zc_98 : zeroCs Try.prog 98 = some [(.int .u64 0), (.int .u64 0), (.int .u32 0), (.int .u8 0), (.int .u8 0), (.int .u8 0), (.int .u8 0), .nilFunc, (.pointer none), (.int .i32 0), (.int .i32 0)] := by kernel_rfl
theorem zl_98 : Lits [(.int .u64 0), (.int .u64 0), (.int .u32 0), (.int .u8 0), (.int .u8 0), (.int .u8 0), (.int .u8 0), .nilFunc, (.pointer none), (.int .i32 0), (.int .i32 0)] [(.v (.int .u64 0)), (.v (.int .u64 0)), (.v (.int .u32 0)), (.v (.int .u8 0)), (.v (.int .u8 0)), (.v (.int .u8 0)), (.v (.int .u8 0)), (.v (.lit .nilFunc)), (.v (.lit (.pointer none))), (.v (.int .i32 0)), (.v (.int .i32 0))] := .int _ _ (.int _ _ (.int _ _ (.int _ _ (.int _ _ (.int _ _ (.int _ _ (.lit _ rfl (.lit _ rfl (.int _ _ (.int _ _ (.nil)))))))))))
theorem sz_99 : sizeB Try.prog 99 = some (false, 1) := by kernel_rfl
theorem zi_99 : infoB Try.prog 99 = some (1, 8) := by kernel_rfl
theorem zv_99 : zeroV Try.prog 99 = some (.pointer none) := by kernel_rfl
theorem zc_99 : zeroCs Try.prog 99 = some [(.pointer none)] := by kernel_rfl
theorem zl_99 : Lits [(.pointer none)] [(.v (.lit (.pointer none)))] := .lit _ rfl (.nil)
theorem sk_37 : structK Try.prog 37 = some [.bool, .int .i64, .int .i64] := by kernel_rfl
theorem sk_70 : structK Try.prog 70 = some [.int .i64, .int .i64] := by kernel_rfl
theorem mx_all : Try.prog.follows .mixedOrders = true := by kernel_rfl
theorem en_2 : entersB Try.prog 2 = true := by kernel_rfl
theorem en_3 : entersB Try.prog 3 = true := by kernel_rfl
theorem en_4 : entersB Try.prog 4 = true := by kernel_rfl
theorem en_5 : entersB Try.prog 5 = true := by kernel_rfl
theorem en_6 : entersB Try.prog 6 = true := by kernel_rfl
theorem en_7 : entersB Try.prog 7 = true := by kernel_rfl
theorem en_8 : entersB Try.prog 8 = true := by kernel_rfl
theorem en_9 : entersB Try.prog 9 = true := by kernel_rfl
theorem en_10 : entersB Try.prog 10 = true := by kernel_rfl
theorem en_11 : entersB Try.prog 11 = true := by kernel_rfl
theorem en_12 : entersB Try.prog 12 = true := by kernel_rfl
theorem en_13 : entersB Try.prog 13 = true := by kernel_rfl
theorem en_14 : entersB Try.prog 14 = true := by kernel_rfl
theorem en_15 : entersB Try.prog 15 = true := by kernel_rfl
theorem en_16 : entersB Try.prog 16 = true := by kernel_rfl
theorem en_17 : entersB Try.prog 17 = true := by kernel_rfl
theorem en_18 : entersB Try.prog 18 = true := by kernel_rfl
theorem en_19 : entersB Try.prog 19 = true := by kernel_rfl
theorem en_20 : entersB Try.prog 20 = true := by kernel_rfl
theorem en_21 : entersB Try.prog 21 = true := by kernel_rfl
theorem en_22 : entersB Try.prog 22 = true := by kernel_rfl
theorem en_23 : entersB Try.prog 23 = true := by kernel_rfl
theorem en_24 : entersB Try.prog 24 = true := by kernel_rfl
theorem en_25 : entersB Try.prog 25 = true := by kernel_rfl
theorem en_26 : entersB Try.prog 26 = true := by kernel_rfl
theorem en_27 : entersB Try.prog 27 = true := by kernel_rfl
theorem en_28 : entersB Try.prog 28 = true := by kernel_rfl
theorem en_29 : entersB Try.prog 29 = true := by kernel_rfl
theorem en_30 : entersB Try.prog 30 = true := by kernel_rfl
theorem en_31 : entersB Try.prog 31 = true := by kernel_rfl
theorem en_32 : entersB Try.prog 32 = true := by kernel_rfl
theorem en_33 : entersB Try.prog 33 = true := by kernel_rfl
theorem en_34 : entersB Try.prog 34 = true := by kernel_rfl
theorem en_35 : entersB Try.prog 35 = true := by kernel_rfl
theorem en_36 : entersB Try.prog 36 = true := by kernel_rfl
theorem en_37 : entersB Try.prog 37 = true := by kernel_rfl
theorem en_38 : entersB Try.prog 38 = true := by kernel_rfl
theorem en_39 : entersB Try.prog 39 = true := by kernel_rfl
theorem en_40 : entersB Try.prog 40 = true := by kernel_rfl
theorem en_41 : entersB Try.prog 41 = true := by kernel_rfl
theorem en_42 : entersB Try.prog 42 = true := by kernel_rfl
theorem en_43 : entersB Try.prog 43 = true := by kernel_rfl
end Go.Proofs.Ytigodfnckjidoaa
