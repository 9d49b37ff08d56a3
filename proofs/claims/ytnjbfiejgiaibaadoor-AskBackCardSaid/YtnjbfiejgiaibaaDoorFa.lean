/- Of this translation's types the sizes, the fields' places and the zeros; of its functions that they are entered. No condition. Printed by a program of this work. -/
import Derived.Test.YtnjbfiejgiaibaaDoorProg
import Derived.Test.YtnjbfiejgiaibaaDoorAu
import Derived.KernelRfl
namespace Go.Proofs.YtnjbfiejgiaibaaDoor
set_option linter.all false
open Go Go.RowKit
theorem sz_0 : sizeB Tryd.prog 0 = some (false, 1) := by kernel_rfl
theorem sz_1 : sizeB Tryd.prog 1 = some (false, 1) := by kernel_rfl
theorem zi_1 : infoB Tryd.prog 1 = some (1, 8) := by kernel_rfl
theorem zv_1 : zeroV Tryd.prog 1 = some .nilFunc := by kernel_rfl
theorem zc_1 : zeroCs Tryd.prog 1 = some [.nilFunc] := by kernel_rfl
theorem zl_1 : Lits [.nilFunc] [(.v (.lit .nilFunc))] := .lit _ rfl (.nil)
theorem sz_2 : sizeB Tryd.prog 2 = some (false, 1) := by kernel_rfl
theorem zi_2 : infoB Tryd.prog 2 = some (1, 8) := by kernel_rfl
theorem zv_2 : zeroV Tryd.prog 2 = some (.int .i64 0) := by kernel_rfl
theorem zc_2 : zeroCs Tryd.prog 2 = some [(.int .i64 0)] := by kernel_rfl
theorem zl_2 : Lits [(.int .i64 0)] [(.v (.int .i64 0))] := .int _ _ (.nil)
theorem sz_3 : sizeB Tryd.prog 3 = some (false, 1) := by kernel_rfl
theorem zi_3 : infoB Tryd.prog 3 = some (1, 8) := by kernel_rfl
theorem zv_3 : zeroV Tryd.prog 3 = some (.int .i64 0) := by kernel_rfl
theorem zc_3 : zeroCs Tryd.prog 3 = some [(.int .i64 0)] := by kernel_rfl
theorem zl_3 : Lits [(.int .i64 0)] [(.v (.int .i64 0))] := .int _ _ (.nil)
theorem sz_4 : sizeB Tryd.prog 4 = some (false, 1) := by kernel_rfl
theorem zi_4 : infoB Tryd.prog 4 = some (1, 1) := by kernel_rfl
theorem zv_4 : zeroV Tryd.prog 4 = some (.bool false) := by kernel_rfl
theorem zc_4 : zeroCs Tryd.prog 4 = some [(.bool false)] := by kernel_rfl
theorem zl_4 : Lits [(.bool false)] [(.v (.bool false))] := .bool _ (.nil)
theorem sz_5 : sizeB Tryd.prog 5 = some (false, 1) := by kernel_rfl
theorem zi_5 : infoB Tryd.prog 5 = some (1, 1) := by kernel_rfl
theorem by_5 : byteB Tryd.prog 5 = true := by kernel_rfl
theorem zv_5 : zeroV Tryd.prog 5 = some (.int .u8 0) := by kernel_rfl
theorem zc_5 : zeroCs Tryd.prog 5 = some [(.int .u8 0)] := by kernel_rfl
theorem zl_5 : Lits [(.int .u8 0)] [(.v (.int .u8 0))] := .int _ _ (.nil)
theorem sz_6 : sizeB Tryd.prog 6 = some (false, 1) := by kernel_rfl
theorem zi_6 : infoB Tryd.prog 6 = some (1, 1) := by kernel_rfl
theorem by_6 : byteB Tryd.prog 6 = true := by kernel_rfl
theorem zv_6 : zeroV Tryd.prog 6 = some (.int .u8 0) := by kernel_rfl
theorem zc_6 : zeroCs Tryd.prog 6 = some [(.int .u8 0)] := by kernel_rfl
theorem zl_6 : Lits [(.int .u8 0)] [(.v (.int .u8 0))] := .int _ _ (.nil)
theorem sz_7 : sizeB Tryd.prog 7 = some (true, 4) := by kernel_rfl
theorem fo_7_0 : fieldOff Tryd.prog 7 0 = some 0 := by kernel_rfl
theorem fo_7_1 : fieldOff Tryd.prog 7 1 = some 1 := by kernel_rfl
theorem fo_7_2 : fieldOff Tryd.prog 7 2 = some 2 := by kernel_rfl
theorem fo_7_3 : fieldOff Tryd.prog 7 3 = some 3 := by kernel_rfl
theorem pl_7 : placesB Tryd.prog 7 = some [(0, 1), (1, 1), (2, 1), (3, 1)] := by kernel_rfl
theorem zi_7 : infoB Tryd.prog 7 = some (4, 24) := by kernel_rfl
theorem zv_7 : zeroV Tryd.prog 7 = some (.agg #[(.int .i64 0), (.int .i64 0), (.bool false), (.int .u8 0)]) := by kernel_rfl
theorem zc_7 : zeroCs Tryd.prog 7 = some [(.int .i64 0), (.int .i64 0), (.bool false), (.int .u8 0)] := by kernel_rfl
theorem zl_7 : Lits [(.int .i64 0), (.int .i64 0), (.bool false), (.int .u8 0)] [(.v (.int .i64 0)), (.v (.int .i64 0)), (.v (.bool false)), (.v (.int .u8 0))] := .int _ _ (.int _ _ (.bool _ (.int _ _ (.nil))))
theorem sz_8 : sizeB Tryd.prog 8 = some (true, 4) := by kernel_rfl
theorem fo_8_0 : fieldOff Tryd.prog 8 0 = some 0 := by kernel_rfl
theorem fo_8_1 : fieldOff Tryd.prog 8 1 = some 1 := by kernel_rfl
theorem fo_8_2 : fieldOff Tryd.prog 8 2 = some 2 := by kernel_rfl
theorem fo_8_3 : fieldOff Tryd.prog 8 3 = some 3 := by kernel_rfl
theorem pl_8 : placesB Tryd.prog 8 = some [(0, 1), (1, 1), (2, 1), (3, 1)] := by kernel_rfl
theorem zi_8 : infoB Tryd.prog 8 = some (4, 24) := by kernel_rfl
theorem zv_8 : zeroV Tryd.prog 8 = some (.agg #[(.int .i64 0), (.int .i64 0), (.bool false), (.int .u8 0)]) := by kernel_rfl
theorem zc_8 : zeroCs Tryd.prog 8 = some [(.int .i64 0), (.int .i64 0), (.bool false), (.int .u8 0)] := by kernel_rfl
theorem zl_8 : Lits [(.int .i64 0), (.int .i64 0), (.bool false), (.int .u8 0)] [(.v (.int .i64 0)), (.v (.int .i64 0)), (.v (.bool false)), (.v (.int .u8 0))] := .int _ _ (.int _ _ (.bool _ (.int _ _ (.nil))))
theorem sz_9 : sizeB Tryd.prog 9 = some (false, 1) := by kernel_rfl
theorem zi_9 : infoB Tryd.prog 9 = some (1, 16) := by kernel_rfl
theorem zv_9 : zeroV Tryd.prog 9 = some (.string ByteArray.empty) := by kernel_rfl
theorem zc_9 : zeroCs Tryd.prog 9 = some [(.string ByteArray.empty)] := by kernel_rfl
theorem zl_9 : Lits [(.string ByteArray.empty)] [(.v (.str []))] := .str (.nil)
theorem sz_10 : sizeB Tryd.prog 10 = some (false, 1) := by kernel_rfl
theorem zi_10 : infoB Tryd.prog 10 = some (1, 16) := by kernel_rfl
theorem zv_10 : zeroV Tryd.prog 10 = some (.string ByteArray.empty) := by kernel_rfl
theorem zc_10 : zeroCs Tryd.prog 10 = some [(.string ByteArray.empty)] := by kernel_rfl
theorem zl_10 : Lits [(.string ByteArray.empty)] [(.v (.str []))] := .str (.nil)
theorem sz_11 : sizeB Tryd.prog 11 = some (false, 1) := by kernel_rfl
theorem zi_11 : infoB Tryd.prog 11 = some (1, 16) := by kernel_rfl
theorem zv_11 : zeroV Tryd.prog 11 = some (.string ByteArray.empty) := by kernel_rfl
theorem zc_11 : zeroCs Tryd.prog 11 = some [(.string ByteArray.empty)] := by kernel_rfl
theorem zl_11 : Lits [(.string ByteArray.empty)] [(.v (.str []))] := .str (.nil)
theorem sz_12 : sizeB Tryd.prog 12 = some (false, 1) := by kernel_rfl
theorem zi_12 : infoB Tryd.prog 12 = some (1, 8) := by kernel_rfl
theorem zv_12 : zeroV Tryd.prog 12 = some (.int .u64 0) := by kernel_rfl
theorem zc_12 : zeroCs Tryd.prog 12 = some [(.int .u64 0)] := by kernel_rfl
theorem zl_12 : Lits [(.int .u64 0)] [(.v (.int .u64 0))] := .int _ _ (.nil)
theorem sz_13 : sizeB Tryd.prog 13 = some (true, 2) := by kernel_rfl
theorem fo_13_0 : fieldOff Tryd.prog 13 0 = some 0 := by kernel_rfl
theorem fo_13_1 : fieldOff Tryd.prog 13 1 = some 1 := by kernel_rfl
theorem pl_13 : placesB Tryd.prog 13 = some [(0, 1), (1, 1)] := by kernel_rfl
theorem zi_13 : infoB Tryd.prog 13 = some (2, 24) := by kernel_rfl
theorem zv_13 : zeroV Tryd.prog 13 = some (.agg #[(.string ByteArray.empty), (.int .u64 0)]) := by kernel_rfl
theorem zc_13 : zeroCs Tryd.prog 13 = some [(.string ByteArray.empty), (.int .u64 0)] := by kernel_rfl
theorem zl_13 : Lits [(.string ByteArray.empty), (.int .u64 0)] [(.v (.str [])), (.v (.int .u64 0))] := .str (.int _ _ (.nil))
theorem sz_14 : sizeB Tryd.prog 14 = some (true, 2) := by kernel_rfl
theorem fo_14_0 : fieldOff Tryd.prog 14 0 = some 0 := by kernel_rfl
theorem fo_14_1 : fieldOff Tryd.prog 14 1 = some 1 := by kernel_rfl
theorem pl_14 : placesB Tryd.prog 14 = some [(0, 1), (1, 1)] := by kernel_rfl
theorem zi_14 : infoB Tryd.prog 14 = some (2, 24) := by kernel_rfl
theorem zv_14 : zeroV Tryd.prog 14 = some (.agg #[(.string ByteArray.empty), (.int .u64 0)]) := by kernel_rfl
theorem zc_14 : zeroCs Tryd.prog 14 = some [(.string ByteArray.empty), (.int .u64 0)] := by kernel_rfl
theorem zl_14 : Lits [(.string ByteArray.empty), (.int .u64 0)] [(.v (.str [])), (.v (.int .u64 0))] := .str (.int _ _ (.nil))
theorem sz_15 : sizeB Tryd.prog 15 = some (false, 1) := by kernel_rfl
theorem zi_15 : infoB Tryd.prog 15 = some (1, 8) := by kernel_rfl
theorem zv_15 : zeroV Tryd.prog 15 = some (.pointer none) := by kernel_rfl
theorem zc_15 : zeroCs Tryd.prog 15 = some [(.pointer none)] := by kernel_rfl
theorem zl_15 : Lits [(.pointer none)] [(.v (.lit (.pointer none)))] := .lit _ rfl (.nil)
theorem sz_16 : sizeB Tryd.prog 16 = some (false, 1) := by kernel_rfl
theorem zi_16 : infoB Tryd.prog 16 = some (1, 8) := by kernel_rfl
theorem zv_16 : zeroV Tryd.prog 16 = some (.pointer none) := by kernel_rfl
theorem zc_16 : zeroCs Tryd.prog 16 = some [(.pointer none)] := by kernel_rfl
theorem zl_16 : Lits [(.pointer none)] [(.v (.lit (.pointer none)))] := .lit _ rfl (.nil)
theorem sz_17 : sizeB Tryd.prog 17 = some (false, 1) := by kernel_rfl
theorem zi_17 : infoB Tryd.prog 17 = some (1, 8) := by kernel_rfl
theorem zv_17 : zeroV Tryd.prog 17 = some (.pointer none) := by kernel_rfl
theorem zc_17 : zeroCs Tryd.prog 17 = some [(.pointer none)] := by kernel_rfl
theorem zl_17 : Lits [(.pointer none)] [(.v (.lit (.pointer none)))] := .lit _ rfl (.nil)
theorem sz_18 : sizeB Tryd.prog 18 = some (true, 1) := by kernel_rfl
theorem fo_18_0 : fieldOff Tryd.prog 18 0 = some 0 := by kernel_rfl
theorem pl_18 : placesB Tryd.prog 18 = some [(0, 1)] := by kernel_rfl
theorem zi_18 : infoB Tryd.prog 18 = some (1, 8) := by kernel_rfl
theorem zv_18 : zeroV Tryd.prog 18 = some (.agg #[(.pointer none)]) := by kernel_rfl
theorem zc_18 : zeroCs Tryd.prog 18 = some [(.pointer none)] := by kernel_rfl
theorem zl_18 : Lits [(.pointer none)] [(.v (.lit (.pointer none)))] := .lit _ rfl (.nil)
theorem sz_19 : sizeB Tryd.prog 19 = some (true, 1) := by kernel_rfl
theorem fo_19_0 : fieldOff Tryd.prog 19 0 = some 0 := by kernel_rfl
theorem pl_19 : placesB Tryd.prog 19 = some [(0, 1)] := by kernel_rfl
theorem zi_19 : infoB Tryd.prog 19 = some (1, 8) := by kernel_rfl
theorem zv_19 : zeroV Tryd.prog 19 = some (.agg #[(.pointer none)]) := by kernel_rfl
theorem zc_19 : zeroCs Tryd.prog 19 = some [(.pointer none)] := by kernel_rfl
theorem zl_19 : Lits [(.pointer none)] [(.v (.lit (.pointer none)))] := .lit _ rfl (.nil)
theorem sz_20 : sizeB Tryd.prog 20 = some (false, 1) := by kernel_rfl
theorem zi_20 : infoB Tryd.prog 20 = some (1, 16) := by kernel_rfl
theorem zv_20 : zeroV Tryd.prog 20 = some .nilIface := by kernel_rfl
theorem zc_20 : zeroCs Tryd.prog 20 = some [.nilIface] := by kernel_rfl
theorem zl_20 : Lits [.nilIface] [(.v (.lit .nilIface))] := .lit _ rfl (.nil)
theorem sz_21 : sizeB Tryd.prog 21 = some (false, 1) := by kernel_rfl
theorem zi_21 : infoB Tryd.prog 21 = some (1, 4) := by kernel_rfl
theorem zv_21 : zeroV Tryd.prog 21 = some (.int .i32 0) := by kernel_rfl
theorem zc_21 : zeroCs Tryd.prog 21 = some [(.int .i32 0)] := by kernel_rfl
theorem zl_21 : Lits [(.int .i32 0)] [(.v (.int .i32 0))] := .int _ _ (.nil)
theorem sz_22 : sizeB Tryd.prog 22 = some (false, 1) := by kernel_rfl
theorem zi_22 : infoB Tryd.prog 22 = some (1, 24) := by kernel_rfl
theorem zv_22 : zeroV Tryd.prog 22 = some (.slice none 0 0) := by kernel_rfl
theorem zc_22 : zeroCs Tryd.prog 22 = some [(.slice none 0 0)] := by kernel_rfl
theorem zl_22 : Lits [(.slice none 0 0)] [(.v (.lit (.slice none 0 0)))] := .lit _ rfl (.nil)
theorem sz_23 : sizeB Tryd.prog 23 = some (true, 4) := by kernel_rfl
theorem fo_23_0 : fieldOff Tryd.prog 23 0 = some 0 := by kernel_rfl
theorem fo_23_1 : fieldOff Tryd.prog 23 1 = some 1 := by kernel_rfl
theorem fo_23_2 : fieldOff Tryd.prog 23 2 = some 2 := by kernel_rfl
theorem fo_23_3 : fieldOff Tryd.prog 23 3 = some 3 := by kernel_rfl
theorem pl_23 : placesB Tryd.prog 23 = some [(0, 1), (1, 1), (2, 1), (3, 1)] := by kernel_rfl
theorem zi_23 : infoB Tryd.prog 23 = some (4, 72) := by kernel_rfl
theorem zv_23 : zeroV Tryd.prog 23 = some (.agg #[(.string ByteArray.empty), (.string ByteArray.empty), (.slice none 0 0), (.string ByteArray.empty)]) := by kernel_rfl
theorem zc_23 : zeroCs Tryd.prog 23 = some [(.string ByteArray.empty), (.string ByteArray.empty), (.slice none 0 0), (.string ByteArray.empty)] := by kernel_rfl
theorem zl_23 : Lits [(.string ByteArray.empty), (.string ByteArray.empty), (.slice none 0 0), (.string ByteArray.empty)] [(.v (.str [])), (.v (.str [])), (.v (.lit (.slice none 0 0))), (.v (.str []))] := .str (.str (.lit _ rfl (.str (.nil))))
theorem sz_24 : sizeB Tryd.prog 24 = some (true, 4) := by kernel_rfl
theorem fo_24_0 : fieldOff Tryd.prog 24 0 = some 0 := by kernel_rfl
theorem fo_24_1 : fieldOff Tryd.prog 24 1 = some 1 := by kernel_rfl
theorem fo_24_2 : fieldOff Tryd.prog 24 2 = some 2 := by kernel_rfl
theorem fo_24_3 : fieldOff Tryd.prog 24 3 = some 3 := by kernel_rfl
theorem pl_24 : placesB Tryd.prog 24 = some [(0, 1), (1, 1), (2, 1), (3, 1)] := by kernel_rfl
theorem zi_24 : infoB Tryd.prog 24 = some (4, 72) := by kernel_rfl
theorem zv_24 : zeroV Tryd.prog 24 = some (.agg #[(.string ByteArray.empty), (.string ByteArray.empty), (.slice none 0 0), (.string ByteArray.empty)]) := by kernel_rfl
theorem zc_24 : zeroCs Tryd.prog 24 = some [(.string ByteArray.empty), (.string ByteArray.empty), (.slice none 0 0), (.string ByteArray.empty)] := by kernel_rfl
theorem zl_24 : Lits [(.string ByteArray.empty), (.string ByteArray.empty), (.slice none 0 0), (.string ByteArray.empty)] [(.v (.str [])), (.v (.str [])), (.v (.lit (.slice none 0 0))), (.v (.str []))] := .str (.str (.lit _ rfl (.str (.nil))))
theorem sz_25 : sizeB Tryd.prog 25 = some (false, 1) := by kernel_rfl
theorem zi_25 : infoB Tryd.prog 25 = some (1, 8) := by kernel_rfl
theorem zv_25 : zeroV Tryd.prog 25 = some .nilFunc := by kernel_rfl
theorem zc_25 : zeroCs Tryd.prog 25 = some [.nilFunc] := by kernel_rfl
theorem zl_25 : Lits [.nilFunc] [(.v (.lit .nilFunc))] := .lit _ rfl (.nil)
theorem sz_26 : sizeB Tryd.prog 26 = some (false, 1) := by kernel_rfl
theorem zi_26 : infoB Tryd.prog 26 = some (1, 8) := by kernel_rfl
theorem zv_26 : zeroV Tryd.prog 26 = some .nilFunc := by kernel_rfl
theorem zc_26 : zeroCs Tryd.prog 26 = some [.nilFunc] := by kernel_rfl
theorem zl_26 : Lits [.nilFunc] [(.v (.lit .nilFunc))] := .lit _ rfl (.nil)
theorem sz_27 : sizeB Tryd.prog 27 = some (false, 1) := by kernel_rfl
theorem zi_27 : infoB Tryd.prog 27 = some (1, 24) := by kernel_rfl
theorem zv_27 : zeroV Tryd.prog 27 = some (.slice none 0 0) := by kernel_rfl
theorem zc_27 : zeroCs Tryd.prog 27 = some [(.slice none 0 0)] := by kernel_rfl
theorem zl_27 : Lits [(.slice none 0 0)] [(.v (.lit (.slice none 0 0)))] := .lit _ rfl (.nil)
theorem sz_28 : sizeB Tryd.prog 28 = some (false, 1) := by kernel_rfl
theorem zi_28 : infoB Tryd.prog 28 = some (1, 8) := by kernel_rfl
theorem zv_28 : zeroV Tryd.prog 28 = some (.int .i64 0) := by kernel_rfl
theorem zc_28 : zeroCs Tryd.prog 28 = some [(.int .i64 0)] := by kernel_rfl
theorem zl_28 : Lits [(.int .i64 0)] [(.v (.int .i64 0))] := .int _ _ (.nil)
theorem sz_29 : sizeB Tryd.prog 29 = some (false, 1) := by kernel_rfl
theorem sz_30 : sizeB Tryd.prog 30 = some (false, 1) := by kernel_rfl
theorem zi_30 : infoB Tryd.prog 30 = some (1, 8) := by kernel_rfl
theorem zv_30 : zeroV Tryd.prog 30 = some .nilFunc := by kernel_rfl
theorem zc_30 : zeroCs Tryd.prog 30 = some [.nilFunc] := by kernel_rfl
theorem zl_30 : Lits [.nilFunc] [(.v (.lit .nilFunc))] := .lit _ rfl (.nil)
theorem sz_31 : sizeB Tryd.prog 31 = some (false, 1) := by kernel_rfl
theorem zi_31 : infoB Tryd.prog 31 = some (1, 8) := by kernel_rfl
theorem zv_31 : zeroV Tryd.prog 31 = some .nilFunc := by kernel_rfl
theorem zc_31 : zeroCs Tryd.prog 31 = some [.nilFunc] := by kernel_rfl
theorem zl_31 : Lits [.nilFunc] [(.v (.lit .nilFunc))] := .lit _ rfl (.nil)
theorem sz_32 : sizeB Tryd.prog 32 = some (true, 5) := by kernel_rfl
theorem fo_32_0 : fieldOff Tryd.prog 32 0 = some 0 := by kernel_rfl
theorem fo_32_1 : fieldOff Tryd.prog 32 1 = some 1 := by kernel_rfl
theorem fo_32_2 : fieldOff Tryd.prog 32 2 = some 2 := by kernel_rfl
theorem fo_32_3 : fieldOff Tryd.prog 32 3 = some 3 := by kernel_rfl
theorem fo_32_4 : fieldOff Tryd.prog 32 4 = some 4 := by kernel_rfl
theorem pl_32 : placesB Tryd.prog 32 = some [(0, 1), (1, 1), (2, 1), (3, 1), (4, 1)] := by kernel_rfl
theorem zi_32 : infoB Tryd.prog 32 = some (5, 88) := by kernel_rfl
theorem zv_32 : zeroV Tryd.prog 32 = some (.agg #[(.string ByteArray.empty), (.string ByteArray.empty), (.string ByteArray.empty), (.string ByteArray.empty), (.slice none 0 0)]) := by kernel_rfl
theorem zc_32 : zeroCs Tryd.prog 32 = some [(.string ByteArray.empty), (.string ByteArray.empty), (.string ByteArray.empty), (.string ByteArray.empty), (.slice none 0 0)] := by kernel_rfl
theorem zl_32 : Lits [(.string ByteArray.empty), (.string ByteArray.empty), (.string ByteArray.empty), (.string ByteArray.empty), (.slice none 0 0)] [(.v (.str [])), (.v (.str [])), (.v (.str [])), (.v (.str [])), (.v (.lit (.slice none 0 0)))] := .str (.str (.str (.str (.lit _ rfl (.nil)))))
theorem sz_33 : sizeB Tryd.prog 33 = some (true, 5) := by kernel_rfl
theorem fo_33_0 : fieldOff Tryd.prog 33 0 = some 0 := by kernel_rfl
theorem fo_33_1 : fieldOff Tryd.prog 33 1 = some 1 := by kernel_rfl
theorem fo_33_2 : fieldOff Tryd.prog 33 2 = some 2 := by kernel_rfl
theorem fo_33_3 : fieldOff Tryd.prog 33 3 = some 3 := by kernel_rfl
theorem fo_33_4 : fieldOff Tryd.prog 33 4 = some 4 := by kernel_rfl
theorem pl_33 : placesB Tryd.prog 33 = some [(0, 1), (1, 1), (2, 1), (3, 1), (4, 1)] := by kernel_rfl
theorem zi_33 : infoB Tryd.prog 33 = some (5, 88) := by kernel_rfl
theorem zv_33 : zeroV Tryd.prog 33 = some (.agg #[(.string ByteArray.empty), (.string ByteArray.empty), (.string ByteArray.empty), (.string ByteArray.empty), (.slice none 0 0)]) := by kernel_rfl
theorem zc_33 : zeroCs Tryd.prog 33 = some [(.string ByteArray.empty), (.string ByteArray.empty), (.string ByteArray.empty), (.string ByteArray.empty), (.slice none 0 0)] := by kernel_rfl
theorem zl_33 : Lits [(.string ByteArray.empty), (.string ByteArray.empty), (.string ByteArray.empty), (.string ByteArray.empty), (.slice none 0 0)] [(.v (.str [])), (.v (.str [])), (.v (.str [])), (.v (.str [])), (.v (.lit (.slice none 0 0)))] := .str (.str (.str (.str (.lit _ rfl (.nil)))))
theorem sz_34 : sizeB Tryd.prog 34 = some (false, 1) := by kernel_rfl
theorem zi_34 : infoB Tryd.prog 34 = some (1, 8) := by kernel_rfl
theorem zv_34 : zeroV Tryd.prog 34 = some .nilFunc := by kernel_rfl
theorem zc_34 : zeroCs Tryd.prog 34 = some [.nilFunc] := by kernel_rfl
theorem zl_34 : Lits [.nilFunc] [(.v (.lit .nilFunc))] := .lit _ rfl (.nil)
theorem sz_35 : sizeB Tryd.prog 35 = some (false, 1) := by kernel_rfl
theorem zi_35 : infoB Tryd.prog 35 = some (1, 8) := by kernel_rfl
theorem zv_35 : zeroV Tryd.prog 35 = some .nilFunc := by kernel_rfl
theorem zc_35 : zeroCs Tryd.prog 35 = some [.nilFunc] := by kernel_rfl
theorem zl_35 : Lits [.nilFunc] [(.v (.lit .nilFunc))] := .lit _ rfl (.nil)
theorem sz_36 : sizeB Tryd.prog 36 = some (false, 1) := by kernel_rfl
theorem zi_36 : infoB Tryd.prog 36 = some (1, 8) := by kernel_rfl
theorem zv_36 : zeroV Tryd.prog 36 = some .nilFunc := by kernel_rfl
theorem zc_36 : zeroCs Tryd.prog 36 = some [.nilFunc] := by kernel_rfl
theorem zl_36 : Lits [.nilFunc] [(.v (.lit .nilFunc))] := .lit _ rfl (.nil)
theorem sz_37 : sizeB Tryd.prog 37 = some (false, 1) := by kernel_rfl
theorem zi_37 : infoB Tryd.prog 37 = some (1, 8) := by kernel_rfl
theorem zv_37 : zeroV Tryd.prog 37 = some .nilFunc := by kernel_rfl
theorem zc_37 : zeroCs Tryd.prog 37 = some [.nilFunc] := by kernel_rfl
theorem zl_37 : Lits [.nilFunc] [(.v (.lit .nilFunc))] := .lit _ rfl (.nil)
theorem sz_38 : sizeB Tryd.prog 38 = some (false, 1) := by kernel_rfl
theorem sz_39 : sizeB Tryd.prog 39 = some (false, 1) := by kernel_rfl
theorem zi_39 : infoB Tryd.prog 39 = some (1, 8) := by kernel_rfl
theorem zv_39 : zeroV Tryd.prog 39 = some .nilFunc := by kernel_rfl
theorem zc_39 : zeroCs Tryd.prog 39 = some [.nilFunc] := by kernel_rfl
theorem zl_39 : Lits [.nilFunc] [(.v (.lit .nilFunc))] := .lit _ rfl (.nil)
theorem sz_40 : sizeB Tryd.prog 40 = some (false, 1) := by kernel_rfl
theorem zi_40 : infoB Tryd.prog 40 = some (1, 8) := by kernel_rfl
theorem zv_40 : zeroV Tryd.prog 40 = some .nilFunc := by kernel_rfl
theorem zc_40 : zeroCs Tryd.prog 40 = some [.nilFunc] := by kernel_rfl
theorem zl_40 : Lits [.nilFunc] [(.v (.lit .nilFunc))] := .lit _ rfl (.nil)
theorem sz_41 : sizeB Tryd.prog 41 = some (false, 1) := by kernel_rfl
theorem zi_41 : infoB Tryd.prog 41 = some (1, 8) := by kernel_rfl
theorem zv_41 : zeroV Tryd.prog 41 = some .nilFunc := by kernel_rfl
theorem zc_41 : zeroCs Tryd.prog 41 = some [.nilFunc] := by kernel_rfl
theorem zl_41 : Lits [.nilFunc] [(.v (.lit .nilFunc))] := .lit _ rfl (.nil)
theorem sz_42 : sizeB Tryd.prog 42 = some (false, 1) := by kernel_rfl
theorem zi_42 : infoB Tryd.prog 42 = some (1, 24) := by kernel_rfl
theorem zv_42 : zeroV Tryd.prog 42 = some (.slice none 0 0) := by kernel_rfl
theorem zc_42 : zeroCs Tryd.prog 42 = some [(.slice none 0 0)] := by kernel_rfl
theorem zl_42 : Lits [(.slice none 0 0)] [(.v (.lit (.slice none 0 0)))] := .lit _ rfl (.nil)
theorem sz_43 : sizeB Tryd.prog 43 = some (false, 1) := by kernel_rfl
theorem sz_44 : sizeB Tryd.prog 44 = some (false, 1) := by kernel_rfl
theorem zi_44 : infoB Tryd.prog 44 = some (1, 8) := by kernel_rfl
theorem zv_44 : zeroV Tryd.prog 44 = some .nilFunc := by kernel_rfl
theorem zc_44 : zeroCs Tryd.prog 44 = some [.nilFunc] := by kernel_rfl
theorem zl_44 : Lits [.nilFunc] [(.v (.lit .nilFunc))] := .lit _ rfl (.nil)
theorem sz_45 : sizeB Tryd.prog 45 = some (false, 1) := by kernel_rfl
theorem zi_45 : infoB Tryd.prog 45 = some (1, 8) := by kernel_rfl
theorem zv_45 : zeroV Tryd.prog 45 = some .nilFunc := by kernel_rfl
theorem zc_45 : zeroCs Tryd.prog 45 = some [.nilFunc] := by kernel_rfl
theorem zl_45 : Lits [.nilFunc] [(.v (.lit .nilFunc))] := .lit _ rfl (.nil)
theorem sz_46 : sizeB Tryd.prog 46 = some (true, 3) := by kernel_rfl
theorem fo_46_0 : fieldOff Tryd.prog 46 0 = some 0 := by kernel_rfl
theorem fo_46_1 : fieldOff Tryd.prog 46 1 = some 1 := by kernel_rfl
theorem fo_46_2 : fieldOff Tryd.prog 46 2 = some 2 := by kernel_rfl
theorem pl_46 : placesB Tryd.prog 46 = some [(0, 1), (1, 1), (2, 1)] := by kernel_rfl
theorem zi_46 : infoB Tryd.prog 46 = some (3, 40) := by kernel_rfl
theorem zv_46 : zeroV Tryd.prog 46 = some (.agg #[(.string ByteArray.empty), (.string ByteArray.empty), (.bool false)]) := by kernel_rfl
theorem zc_46 : zeroCs Tryd.prog 46 = some [(.string ByteArray.empty), (.string ByteArray.empty), (.bool false)] := by kernel_rfl
theorem zl_46 : Lits [(.string ByteArray.empty), (.string ByteArray.empty), (.bool false)] [(.v (.str [])), (.v (.str [])), (.v (.bool false))] := .str (.str (.bool _ (.nil)))
theorem sz_47 : sizeB Tryd.prog 47 = some (true, 3) := by kernel_rfl
theorem fo_47_0 : fieldOff Tryd.prog 47 0 = some 0 := by kernel_rfl
theorem fo_47_1 : fieldOff Tryd.prog 47 1 = some 1 := by kernel_rfl
theorem fo_47_2 : fieldOff Tryd.prog 47 2 = some 2 := by kernel_rfl
theorem pl_47 : placesB Tryd.prog 47 = some [(0, 1), (1, 1), (2, 1)] := by kernel_rfl
theorem zi_47 : infoB Tryd.prog 47 = some (3, 40) := by kernel_rfl
theorem zv_47 : zeroV Tryd.prog 47 = some (.agg #[(.string ByteArray.empty), (.string ByteArray.empty), (.bool false)]) := by kernel_rfl
theorem zc_47 : zeroCs Tryd.prog 47 = some [(.string ByteArray.empty), (.string ByteArray.empty), (.bool false)] := by kernel_rfl
theorem zl_47 : Lits [(.string ByteArray.empty), (.string ByteArray.empty), (.bool false)] [(.v (.str [])), (.v (.str [])), (.v (.bool false))] := .str (.str (.bool _ (.nil)))
theorem sz_48 : sizeB Tryd.prog 48 = some (false, 1) := by kernel_rfl
theorem zi_48 : infoB Tryd.prog 48 = some (1, 1) := by kernel_rfl
theorem zv_48 : zeroV Tryd.prog 48 = some (.int .i8 0) := by kernel_rfl
theorem zc_48 : zeroCs Tryd.prog 48 = some [(.int .i8 0)] := by kernel_rfl
theorem zl_48 : Lits [(.int .i8 0)] [(.v (.int .i8 0))] := .int _ _ (.nil)
theorem sz_49 : sizeB Tryd.prog 49 = some (false, 1) := by kernel_rfl
theorem zi_49 : infoB Tryd.prog 49 = some (1, 1) := by kernel_rfl
theorem zv_49 : zeroV Tryd.prog 49 = some (.int .i8 0) := by kernel_rfl
theorem zc_49 : zeroCs Tryd.prog 49 = some [(.int .i8 0)] := by kernel_rfl
theorem zl_49 : Lits [(.int .i8 0)] [(.v (.int .i8 0))] := .int _ _ (.nil)
theorem sz_50 : sizeB Tryd.prog 50 = some (true, 3) := by kernel_rfl
theorem fo_50_0 : fieldOff Tryd.prog 50 0 = some 0 := by kernel_rfl
theorem fo_50_1 : fieldOff Tryd.prog 50 1 = some 1 := by kernel_rfl
theorem fo_50_2 : fieldOff Tryd.prog 50 2 = some 2 := by kernel_rfl
theorem pl_50 : placesB Tryd.prog 50 = some [(0, 1), (1, 1), (2, 1)] := by kernel_rfl
theorem zi_50 : infoB Tryd.prog 50 = some (3, 40) := by kernel_rfl
theorem zv_50 : zeroV Tryd.prog 50 = some (.agg #[(.slice none 0 0), (.int .i64 0), (.int .i8 0)]) := by kernel_rfl
theorem zc_50 : zeroCs Tryd.prog 50 = some [(.slice none 0 0), (.int .i64 0), (.int .i8 0)] := by kernel_rfl
theorem zl_50 : Lits [(.slice none 0 0), (.int .i64 0), (.int .i8 0)] [(.v (.lit (.slice none 0 0))), (.v (.int .i64 0)), (.v (.int .i8 0))] := .lit _ rfl (.int _ _ (.int _ _ (.nil)))
theorem sz_51 : sizeB Tryd.prog 51 = some (true, 3) := by kernel_rfl
theorem fo_51_0 : fieldOff Tryd.prog 51 0 = some 0 := by kernel_rfl
theorem fo_51_1 : fieldOff Tryd.prog 51 1 = some 1 := by kernel_rfl
theorem fo_51_2 : fieldOff Tryd.prog 51 2 = some 2 := by kernel_rfl
theorem pl_51 : placesB Tryd.prog 51 = some [(0, 1), (1, 1), (2, 1)] := by kernel_rfl
theorem zi_51 : infoB Tryd.prog 51 = some (3, 40) := by kernel_rfl
theorem zv_51 : zeroV Tryd.prog 51 = some (.agg #[(.slice none 0 0), (.int .i64 0), (.int .i8 0)]) := by kernel_rfl
theorem zc_51 : zeroCs Tryd.prog 51 = some [(.slice none 0 0), (.int .i64 0), (.int .i8 0)] := by kernel_rfl
theorem zl_51 : Lits [(.slice none 0 0), (.int .i64 0), (.int .i8 0)] [(.v (.lit (.slice none 0 0))), (.v (.int .i64 0)), (.v (.int .i8 0))] := .lit _ rfl (.int _ _ (.int _ _ (.nil)))
theorem sz_52 : sizeB Tryd.prog 52 = some (false, 1) := by kernel_rfl
theorem zi_52 : infoB Tryd.prog 52 = some (1, 16) := by kernel_rfl
theorem zv_52 : zeroV Tryd.prog 52 = some .nilIface := by kernel_rfl
theorem zc_52 : zeroCs Tryd.prog 52 = some [.nilIface] := by kernel_rfl
theorem zl_52 : Lits [.nilIface] [(.v (.lit .nilIface))] := .lit _ rfl (.nil)
theorem sz_53 : sizeB Tryd.prog 53 = some (false, 1) := by kernel_rfl
theorem zi_53 : infoB Tryd.prog 53 = some (1, 16) := by kernel_rfl
theorem zv_53 : zeroV Tryd.prog 53 = some .nilIface := by kernel_rfl
theorem zc_53 : zeroCs Tryd.prog 53 = some [.nilIface] := by kernel_rfl
theorem zl_53 : Lits [.nilIface] [(.v (.lit .nilIface))] := .lit _ rfl (.nil)
theorem sz_54 : sizeB Tryd.prog 54 = some (false, 1) := by kernel_rfl
theorem sz_55 : sizeB Tryd.prog 55 = some (false, 1) := by kernel_rfl
theorem zi_55 : infoB Tryd.prog 55 = some (1, 8) := by kernel_rfl
theorem zv_55 : zeroV Tryd.prog 55 = some .nilFunc := by kernel_rfl
theorem zc_55 : zeroCs Tryd.prog 55 = some [.nilFunc] := by kernel_rfl
theorem zl_55 : Lits [.nilFunc] [(.v (.lit .nilFunc))] := .lit _ rfl (.nil)
theorem sz_56 : sizeB Tryd.prog 56 = some (false, 1) := by kernel_rfl
theorem zi_56 : infoB Tryd.prog 56 = some (1, 8) := by kernel_rfl
theorem zv_56 : zeroV Tryd.prog 56 = some .nilFunc := by kernel_rfl
theorem zc_56 : zeroCs Tryd.prog 56 = some [.nilFunc] := by kernel_rfl
theorem zl_56 : Lits [.nilFunc] [(.v (.lit .nilFunc))] := .lit _ rfl (.nil)
theorem sz_57 : sizeB Tryd.prog 57 = some (false, 1) := by kernel_rfl
theorem zi_57 : infoB Tryd.prog 57 = some (1, 8) := by kernel_rfl
theorem zv_57 : zeroV Tryd.prog 57 = some .nilFunc := by kernel_rfl
theorem zc_57 : zeroCs Tryd.prog 57 = some [.nilFunc] := by kernel_rfl
theorem zl_57 : Lits [.nilFunc] [(.v (.lit .nilFunc))] := .lit _ rfl (.nil)
theorem sz_58 : sizeB Tryd.prog 58 = some (false, 1) := by kernel_rfl
theorem zi_58 : infoB Tryd.prog 58 = some (1, 8) := by kernel_rfl
theorem zv_58 : zeroV Tryd.prog 58 = some .nilFunc := by kernel_rfl
theorem zc_58 : zeroCs Tryd.prog 58 = some [.nilFunc] := by kernel_rfl
theorem zl_58 : Lits [.nilFunc] [(.v (.lit .nilFunc))] := .lit _ rfl (.nil)
theorem sz_59 : sizeB Tryd.prog 59 = some (false, 1) := by kernel_rfl
theorem zi_59 : infoB Tryd.prog 59 = some (1, 8) := by kernel_rfl
theorem zv_59 : zeroV Tryd.prog 59 = some .nilFunc := by kernel_rfl
theorem zc_59 : zeroCs Tryd.prog 59 = some [.nilFunc] := by kernel_rfl
theorem zl_59 : Lits [.nilFunc] [(.v (.lit .nilFunc))] := .lit _ rfl (.nil)
theorem sz_60 : sizeB Tryd.prog 60 = some (false, 1) := by kernel_rfl
theorem zi_60 : infoB Tryd.prog 60 = some (1, 8) := by kernel_rfl
theorem zv_60 : zeroV Tryd.prog 60 = some .nilFunc := by kernel_rfl
theorem zc_60 : zeroCs Tryd.prog 60 = some [.nilFunc] := by kernel_rfl
theorem zl_60 : Lits [.nilFunc] [(.v (.lit .nilFunc))] := .lit _ rfl (.nil)
theorem sz_61 : sizeB Tryd.prog 61 = some (false, 1) := by kernel_rfl
theorem zi_61 : infoB Tryd.prog 61 = some (1, 8) := by kernel_rfl
theorem zv_61 : zeroV Tryd.prog 61 = some .nilFunc := by kernel_rfl
theorem zc_61 : zeroCs Tryd.prog 61 = some [.nilFunc] := by kernel_rfl
theorem zl_61 : Lits [.nilFunc] [(.v (.lit .nilFunc))] := .lit _ rfl (.nil)
theorem sz_62 : sizeB Tryd.prog 62 = some (false, 1) := by kernel_rfl
theorem zi_62 : infoB Tryd.prog 62 = some (1, 8) := by kernel_rfl
theorem zv_62 : zeroV Tryd.prog 62 = some .nilFunc := by kernel_rfl
theorem zc_62 : zeroCs Tryd.prog 62 = some [.nilFunc] := by kernel_rfl
theorem zl_62 : Lits [.nilFunc] [(.v (.lit .nilFunc))] := .lit _ rfl (.nil)
theorem sz_63 : sizeB Tryd.prog 63 = some (false, 1) := by kernel_rfl
theorem zi_63 : infoB Tryd.prog 63 = some (1, 8) := by kernel_rfl
theorem zv_63 : zeroV Tryd.prog 63 = some .nilFunc := by kernel_rfl
theorem zc_63 : zeroCs Tryd.prog 63 = some [.nilFunc] := by kernel_rfl
theorem zl_63 : Lits [.nilFunc] [(.v (.lit .nilFunc))] := .lit _ rfl (.nil)
theorem sz_64 : sizeB Tryd.prog 64 = some (false, 1) := by kernel_rfl
theorem zi_64 : infoB Tryd.prog 64 = some (1, 24) := by kernel_rfl
theorem zv_64 : zeroV Tryd.prog 64 = some (.slice none 0 0) := by kernel_rfl
theorem zc_64 : zeroCs Tryd.prog 64 = some [(.slice none 0 0)] := by kernel_rfl
theorem zl_64 : Lits [(.slice none 0 0)] [(.v (.lit (.slice none 0 0)))] := .lit _ rfl (.nil)
theorem sz_65 : sizeB Tryd.prog 65 = some (true, 1) := by kernel_rfl
theorem fo_65_0 : fieldOff Tryd.prog 65 0 = some 0 := by kernel_rfl
theorem pl_65 : placesB Tryd.prog 65 = some [(0, 1)] := by kernel_rfl
theorem zi_65 : infoB Tryd.prog 65 = some (1, 8) := by kernel_rfl
theorem zv_65 : zeroV Tryd.prog 65 = some (.agg #[(.int .i64 0)]) := by kernel_rfl
theorem zc_65 : zeroCs Tryd.prog 65 = some [(.int .i64 0)] := by kernel_rfl
theorem zl_65 : Lits [(.int .i64 0)] [(.v (.int .i64 0))] := .int _ _ (.nil)
theorem sz_66 : sizeB Tryd.prog 66 = some (true, 1) := by kernel_rfl
theorem fo_66_0 : fieldOff Tryd.prog 66 0 = some 0 := by kernel_rfl
theorem pl_66 : placesB Tryd.prog 66 = some [(0, 1)] := by kernel_rfl
theorem zi_66 : infoB Tryd.prog 66 = some (1, 8) := by kernel_rfl
theorem zv_66 : zeroV Tryd.prog 66 = some (.agg #[(.int .i64 0)]) := by kernel_rfl
theorem zc_66 : zeroCs Tryd.prog 66 = some [(.int .i64 0)] := by kernel_rfl
theorem zl_66 : Lits [(.int .i64 0)] [(.v (.int .i64 0))] := .int _ _ (.nil)
theorem sz_67 : sizeB Tryd.prog 67 = some (false, 1) := by kernel_rfl
theorem sz_68 : sizeB Tryd.prog 68 = some (false, 1) := by kernel_rfl
theorem zi_68 : infoB Tryd.prog 68 = some (1, 8) := by kernel_rfl
theorem zv_68 : zeroV Tryd.prog 68 = some (.pointer none) := by kernel_rfl
theorem zc_68 : zeroCs Tryd.prog 68 = some [(.pointer none)] := by kernel_rfl
theorem zl_68 : Lits [(.pointer none)] [(.v (.lit (.pointer none)))] := .lit _ rfl (.nil)
theorem sz_69 : sizeB Tryd.prog 69 = some (true, 2) := by kernel_rfl
theorem fo_69_0 : fieldOff Tryd.prog 69 0 = some 0 := by kernel_rfl
theorem fo_69_1 : fieldOff Tryd.prog 69 1 = some 1 := by kernel_rfl
theorem pl_69 : placesB Tryd.prog 69 = some [(0, 1), (1, 1)] := by kernel_rfl
theorem zi_69 : infoB Tryd.prog 69 = some (2, 32) := by kernel_rfl
theorem zv_69 : zeroV Tryd.prog 69 = some (.agg #[(.slice none 0 0), (.int .i64 0)]) := by kernel_rfl
theorem zc_69 : zeroCs Tryd.prog 69 = some [(.slice none 0 0), (.int .i64 0)] := by kernel_rfl
theorem zl_69 : Lits [(.slice none 0 0), (.int .i64 0)] [(.v (.lit (.slice none 0 0))), (.v (.int .i64 0))] := .lit _ rfl (.int _ _ (.nil))
theorem sz_70 : sizeB Tryd.prog 70 = some (true, 2) := by kernel_rfl
theorem fo_70_0 : fieldOff Tryd.prog 70 0 = some 0 := by kernel_rfl
theorem fo_70_1 : fieldOff Tryd.prog 70 1 = some 1 := by kernel_rfl
theorem pl_70 : placesB Tryd.prog 70 = some [(0, 1), (1, 1)] := by kernel_rfl
theorem zi_70 : infoB Tryd.prog 70 = some (2, 32) := by kernel_rfl
theorem zv_70 : zeroV Tryd.prog 70 = some (.agg #[(.slice none 0 0), (.int .i64 0)]) := by kernel_rfl
theorem zc_70 : zeroCs Tryd.prog 70 = some [(.slice none 0 0), (.int .i64 0)] := by kernel_rfl
theorem zl_70 : Lits [(.slice none 0 0), (.int .i64 0)] [(.v (.lit (.slice none 0 0))), (.v (.int .i64 0))] := .lit _ rfl (.int _ _ (.nil))
theorem sz_71 : sizeB Tryd.prog 71 = some (false, 1) := by kernel_rfl
theorem zi_71 : infoB Tryd.prog 71 = some (1, 8) := by kernel_rfl
theorem zv_71 : zeroV Tryd.prog 71 = some .nilFunc := by kernel_rfl
theorem zc_71 : zeroCs Tryd.prog 71 = some [.nilFunc] := by kernel_rfl
theorem zl_71 : Lits [.nilFunc] [(.v (.lit .nilFunc))] := .lit _ rfl (.nil)
theorem sz_72 : sizeB Tryd.prog 72 = some (false, 1) := by kernel_rfl
theorem zi_72 : infoB Tryd.prog 72 = some (1, 8) := by kernel_rfl
theorem zv_72 : zeroV Tryd.prog 72 = some .nilFunc := by kernel_rfl
theorem zc_72 : zeroCs Tryd.prog 72 = some [.nilFunc] := by kernel_rfl
theorem zl_72 : Lits [.nilFunc] [(.v (.lit .nilFunc))] := .lit _ rfl (.nil)
theorem sz_73 : sizeB Tryd.prog 73 = some (false, 1) := by kernel_rfl
theorem zi_73 : infoB Tryd.prog 73 = some (1, 8) := by kernel_rfl
theorem zv_73 : zeroV Tryd.prog 73 = some .nilFunc := by kernel_rfl
theorem zc_73 : zeroCs Tryd.prog 73 = some [.nilFunc] := by kernel_rfl
theorem zl_73 : Lits [.nilFunc] [(.v (.lit .nilFunc))] := .lit _ rfl (.nil)
theorem sz_74 : sizeB Tryd.prog 74 = some (false, 1) := by kernel_rfl
theorem zi_74 : infoB Tryd.prog 74 = some (1, 8) := by kernel_rfl
theorem zv_74 : zeroV Tryd.prog 74 = some .nilFunc := by kernel_rfl
theorem zc_74 : zeroCs Tryd.prog 74 = some [.nilFunc] := by kernel_rfl
theorem zl_74 : Lits [.nilFunc] [(.v (.lit .nilFunc))] := .lit _ rfl (.nil)
theorem sz_75 : sizeB Tryd.prog 75 = some (false, 1) := by kernel_rfl
theorem zi_75 : infoB Tryd.prog 75 = some (1, 8) := by kernel_rfl
theorem zv_75 : zeroV Tryd.prog 75 = some .nilFunc := by kernel_rfl
theorem zc_75 : zeroCs Tryd.prog 75 = some [.nilFunc] := by kernel_rfl
theorem zl_75 : Lits [.nilFunc] [(.v (.lit .nilFunc))] := .lit _ rfl (.nil)
theorem sz_76 : sizeB Tryd.prog 76 = some (false, 1) := by kernel_rfl
theorem zi_76 : infoB Tryd.prog 76 = some (1, 8) := by kernel_rfl
theorem zv_76 : zeroV Tryd.prog 76 = some .nilFunc := by kernel_rfl
theorem zc_76 : zeroCs Tryd.prog 76 = some [.nilFunc] := by kernel_rfl
theorem zl_76 : Lits [.nilFunc] [(.v (.lit .nilFunc))] := .lit _ rfl (.nil)
theorem sz_77 : sizeB Tryd.prog 77 = some (false, 1) := by kernel_rfl
theorem zi_77 : infoB Tryd.prog 77 = some (1, 8) := by kernel_rfl
theorem zv_77 : zeroV Tryd.prog 77 = some (.pointer none) := by kernel_rfl
theorem zc_77 : zeroCs Tryd.prog 77 = some [(.pointer none)] := by kernel_rfl
theorem zl_77 : Lits [(.pointer none)] [(.v (.lit (.pointer none)))] := .lit _ rfl (.nil)
theorem sz_78 : sizeB Tryd.prog 78 = some (false, 1) := by kernel_rfl
theorem sz_79 : sizeB Tryd.prog 79 = some (false, 1) := by kernel_rfl
theorem zi_79 : infoB Tryd.prog 79 = some (1, 8) := by kernel_rfl
theorem zv_79 : zeroV Tryd.prog 79 = some .nilFunc := by kernel_rfl
theorem zc_79 : zeroCs Tryd.prog 79 = some [.nilFunc] := by kernel_rfl
theorem zl_79 : Lits [.nilFunc] [(.v (.lit .nilFunc))] := .lit _ rfl (.nil)
theorem sz_80 : sizeB Tryd.prog 80 = some (false, 1) := by kernel_rfl
theorem zi_80 : infoB Tryd.prog 80 = some (1, 8) := by kernel_rfl
theorem zv_80 : zeroV Tryd.prog 80 = some .nilFunc := by kernel_rfl
theorem zc_80 : zeroCs Tryd.prog 80 = some [.nilFunc] := by kernel_rfl
theorem zl_80 : Lits [.nilFunc] [(.v (.lit .nilFunc))] := .lit _ rfl (.nil)
theorem sz_81 : sizeB Tryd.prog 81 = some (false, 1) := by kernel_rfl
theorem zi_81 : infoB Tryd.prog 81 = some (1, 8) := by kernel_rfl
theorem zv_81 : zeroV Tryd.prog 81 = some (.map none) := by kernel_rfl
theorem zc_81 : zeroCs Tryd.prog 81 = some [(.map none)] := by kernel_rfl
theorem zl_81 : Lits [(.map none)] [(.v (.lit (.map none)))] := .lit _ rfl (.nil)
theorem sz_82 : sizeB Tryd.prog 82 = some (false, 1) := by kernel_rfl
theorem zi_82 : infoB Tryd.prog 82 = some (1, 8) := by kernel_rfl
theorem zv_82 : zeroV Tryd.prog 82 = some .nilFunc := by kernel_rfl
theorem zc_82 : zeroCs Tryd.prog 82 = some [.nilFunc] := by kernel_rfl
theorem zl_82 : Lits [.nilFunc] [(.v (.lit .nilFunc))] := .lit _ rfl (.nil)
theorem sz_83 : sizeB Tryd.prog 83 = some (false, 1) := by kernel_rfl
theorem zi_83 : infoB Tryd.prog 83 = some (1, 8) := by kernel_rfl
theorem zv_83 : zeroV Tryd.prog 83 = some .nilFunc := by kernel_rfl
theorem zc_83 : zeroCs Tryd.prog 83 = some [.nilFunc] := by kernel_rfl
theorem zl_83 : Lits [.nilFunc] [(.v (.lit .nilFunc))] := .lit _ rfl (.nil)
theorem sz_84 : sizeB Tryd.prog 84 = some (false, 1) := by kernel_rfl
theorem zi_84 : infoB Tryd.prog 84 = some (1, 8) := by kernel_rfl
theorem zv_84 : zeroV Tryd.prog 84 = some .nilFunc := by kernel_rfl
theorem zc_84 : zeroCs Tryd.prog 84 = some [.nilFunc] := by kernel_rfl
theorem zl_84 : Lits [.nilFunc] [(.v (.lit .nilFunc))] := .lit _ rfl (.nil)
theorem sz_85 : sizeB Tryd.prog 85 = some (false, 1) := by kernel_rfl
theorem zi_85 : infoB Tryd.prog 85 = some (1, 8) := by kernel_rfl
theorem zv_85 : zeroV Tryd.prog 85 = some .nilFunc := by kernel_rfl
theorem zc_85 : zeroCs Tryd.prog 85 = some [.nilFunc] := by kernel_rfl
theorem zl_85 : Lits [.nilFunc] [(.v (.lit .nilFunc))] := .lit _ rfl (.nil)
theorem sz_86 : sizeB Tryd.prog 86 = some (false, 1) := by kernel_rfl
theorem zi_86 : infoB Tryd.prog 86 = some (1, 8) := by kernel_rfl
theorem zv_86 : zeroV Tryd.prog 86 = some .nilFunc := by kernel_rfl
theorem zc_86 : zeroCs Tryd.prog 86 = some [.nilFunc] := by kernel_rfl
theorem zl_86 : Lits [.nilFunc] [(.v (.lit .nilFunc))] := .lit _ rfl (.nil)
theorem sz_87 : sizeB Tryd.prog 87 = some (false, 1) := by kernel_rfl
theorem zi_87 : infoB Tryd.prog 87 = some (1, 8) := by kernel_rfl
theorem zv_87 : zeroV Tryd.prog 87 = some .nilFunc := by kernel_rfl
theorem zc_87 : zeroCs Tryd.prog 87 = some [.nilFunc] := by kernel_rfl
theorem zl_87 : Lits [.nilFunc] [(.v (.lit .nilFunc))] := .lit _ rfl (.nil)
theorem sz_88 : sizeB Tryd.prog 88 = some (false, 1) := by kernel_rfl
theorem zi_88 : infoB Tryd.prog 88 = some (1, 8) := by kernel_rfl
theorem zv_88 : zeroV Tryd.prog 88 = some .nilFunc := by kernel_rfl
theorem zc_88 : zeroCs Tryd.prog 88 = some [.nilFunc] := by kernel_rfl
theorem zl_88 : Lits [.nilFunc] [(.v (.lit .nilFunc))] := .lit _ rfl (.nil)
theorem sz_89 : sizeB Tryd.prog 89 = some (false, 1) := by kernel_rfl
theorem zi_89 : infoB Tryd.prog 89 = some (1, 8) := by kernel_rfl
theorem zv_89 : zeroV Tryd.prog 89 = some .nilFunc := by kernel_rfl
theorem zc_89 : zeroCs Tryd.prog 89 = some [.nilFunc] := by kernel_rfl
theorem zl_89 : Lits [.nilFunc] [(.v (.lit .nilFunc))] := .lit _ rfl (.nil)
theorem sz_90 : sizeB Tryd.prog 90 = some (false, 1) := by kernel_rfl
theorem zi_90 : infoB Tryd.prog 90 = some (1, 8) := by kernel_rfl
theorem zv_90 : zeroV Tryd.prog 90 = some .nilFunc := by kernel_rfl
theorem zc_90 : zeroCs Tryd.prog 90 = some [.nilFunc] := by kernel_rfl
theorem zl_90 : Lits [.nilFunc] [(.v (.lit .nilFunc))] := .lit _ rfl (.nil)
theorem sz_91 : sizeB Tryd.prog 91 = some (false, 1) := by kernel_rfl
theorem sz_92 : sizeB Tryd.prog 92 = some (false, 1) := by kernel_rfl
theorem zi_92 : infoB Tryd.prog 92 = some (1, 8) := by kernel_rfl
theorem zv_92 : zeroV Tryd.prog 92 = some .nilFunc := by kernel_rfl
theorem zc_92 : zeroCs Tryd.prog 92 = some [.nilFunc] := by kernel_rfl
theorem zl_92 : Lits [.nilFunc] [(.v (.lit .nilFunc))] := .lit _ rfl (.nil)
theorem sz_93 : sizeB Tryd.prog 93 = some (false, 1) := by kernel_rfl
theorem sz_94 : sizeB Tryd.prog 94 = some (false, 1) := by kernel_rfl
theorem zi_94 : infoB Tryd.prog 94 = some (1, 8) := by kernel_rfl
theorem zv_94 : zeroV Tryd.prog 94 = some .nilFunc := by kernel_rfl
theorem zc_94 : zeroCs Tryd.prog 94 = some [.nilFunc] := by kernel_rfl
theorem zl_94 : Lits [.nilFunc] [(.v (.lit .nilFunc))] := .lit _ rfl (.nil)
theorem sz_95 : sizeB Tryd.prog 95 = some (false, 1) := by kernel_rfl
theorem zi_95 : infoB Tryd.prog 95 = some (1, 8) := by kernel_rfl
theorem zv_95 : zeroV Tryd.prog 95 = some .nilFunc := by kernel_rfl
theorem zc_95 : zeroCs Tryd.prog 95 = some [.nilFunc] := by kernel_rfl
theorem zl_95 : Lits [.nilFunc] [(.v (.lit .nilFunc))] := .lit _ rfl (.nil)
theorem sz_96 : sizeB Tryd.prog 96 = some (false, 1) := by kernel_rfl
theorem zi_96 : infoB Tryd.prog 96 = some (1, 8) := by kernel_rfl
theorem zv_96 : zeroV Tryd.prog 96 = some .nilFunc := by kernel_rfl
theorem zc_96 : zeroCs Tryd.prog 96 = some [.nilFunc] := by kernel_rfl
theorem zl_96 : Lits [.nilFunc] [(.v (.lit .nilFunc))] := .lit _ rfl (.nil)
theorem sz_97 : sizeB Tryd.prog 97 = some (true, 64) := by kernel_rfl
theorem pl_97 : placesB Tryd.prog 97 = some [(0, 1), (1, 1), (2, 1), (3, 1), (4, 1), (5, 1), (6, 1), (7, 1), (8, 1), (9, 1), (10, 1), (11, 1), (12, 1), (13, 1), (14, 1), (15, 1), (16, 1), (17, 1), (18, 1), (19, 1), (20, 1), (21, 1), (22, 1), (23, 1), (24, 1), (25, 1), (26, 1), (27, 1), (28, 1), (29, 1), (30, 1), (31, 1), (32, 1), (33, 1), (34, 1), (35, 1), (36, 1), (37, 1), (38, 1), (39, 1), (40, 1), (41, 1), (42, 1), (43, 1), (44, 1), (45, 1), (46, 1), (47, 1), (48, 1), (49, 1), (50, 1), (51, 1), (52, 1), (53, 1), (54, 1), (55, 1), (56, 1), (57, 1), (58, 1), (59, 1), (60, 1), (61, 1), (62, 1), (63, 1)] := by kernel_rfl
theorem zi_97 : infoB Tryd.prog 97 = some (64, 64) := by kernel_rfl
theorem zv_97 : zeroV Tryd.prog 97 = some (.agg #[(.int .u8 0), (.int .u8 0), (.int .u8 0), (.int .u8 0), (.int .u8 0), (.int .u8 0), (.int .u8 0), (.int .u8 0), (.int .u8 0), (.int .u8 0), (.int .u8 0), (.int .u8 0), (.int .u8 0), (.int .u8 0), (.int .u8 0), (.int .u8 0), (.int .u8 0), (.int .u8 0), (.int .u8 0), (.int .u8 0), (.int .u8 0), (.int .u8 0), (.int .u8 0), (.int .u8 0), (.int .u8 0), (.int .u8 0), (.int .u8 0), (.int .u8 0), (.int .u8 0), (.int .u8 0), (.int .u8 0), (.int .u8 0), (.int .u8 0), (.int .u8 0), (.int .u8 0), (.int .u8 0), (.int .u8 0), (.int .u8 0), (.int .u8 0), (.int .u8 0), (.int .u8 0), (.int .u8 0), (.int .u8 0), (.int .u8 0), (.int .u8 0), (.int .u8 0), (.int .u8 0), (.int .u8 0), (.int .u8 0), (.int .u8 0), (.int .u8 0), (.int .u8 0), (.int .u8 0), (.int .u8 0), (.int .u8 0), (.int .u8 0), (.int .u8 0), (.int .u8 0), (.int .u8 0), (.int .u8 0), (.int .u8 0), (.int .u8 0), (.int .u8 0), (.int .u8 0)]) := by kernel_rfl
theorem zc_97 : zeroCs Tryd.prog 97 = some [(.int .u8 0), (.int .u8 0), (.int .u8 0), (.int .u8 0), (.int .u8 0), (.int .u8 0), (.int .u8 0), (.int .u8 0), (.int .u8 0), (.int .u8 0), (.int .u8 0), (.int .u8 0), (.int .u8 0), (.int .u8 0), (.int .u8 0), (.int .u8 0), (.int .u8 0), (.int .u8 0), (.int .u8 0), (.int .u8 0), (.int .u8 0), (.int .u8 0), (.int .u8 0), (.int .u8 0), (.int .u8 0), (.int .u8 0), (.int .u8 0), (.int .u8 0), (.int .u8 0), (.int .u8 0), (.int .u8 0), (.int .u8 0), (.int .u8 0), (.int .u8 0), (.int .u8 0), (.int .u8 0), (.int .u8 0), (.int .u8 0), (.int .u8 0), (.int .u8 0), (.int .u8 0), (.int .u8 0), (.int .u8 0), (.int .u8 0), (.int .u8 0), (.int .u8 0), (.int .u8 0), (.int .u8 0), (.int .u8 0), (.int .u8 0), (.int .u8 0), (.int .u8 0), (.int .u8 0), (.int .u8 0), (.int .u8 0), (.int .u8 0), (.int .u8 0), (.int .u8 0), (.int .u8 0), (.int .u8 0), (.int .u8 0), (.int .u8 0), (.int .u8 0), (.int .u8 0)] := by kernel_rfl
theorem zl_97 : Lits [(.int .u8 0), (.int .u8 0), (.int .u8 0), (.int .u8 0), (.int .u8 0), (.int .u8 0), (.int .u8 0), (.int .u8 0), (.int .u8 0), (.int .u8 0), (.int .u8 0), (.int .u8 0), (.int .u8 0), (.int .u8 0), (.int .u8 0), (.int .u8 0), (.int .u8 0), (.int .u8 0), (.int .u8 0), (.int .u8 0), (.int .u8 0), (.int .u8 0), (.int .u8 0), (.int .u8 0), (.int .u8 0), (.int .u8 0), (.int .u8 0), (.int .u8 0), (.int .u8 0), (.int .u8 0), (.int .u8 0), (.int .u8 0), (.int .u8 0), (.int .u8 0), (.int .u8 0), (.int .u8 0), (.int .u8 0), (.int .u8 0), (.int .u8 0), (.int .u8 0), (.int .u8 0), (.int .u8 0), (.int .u8 0), (.int .u8 0), (.int .u8 0), (.int .u8 0), (.int .u8 0), (.int .u8 0), (.int .u8 0), (.int .u8 0), (.int .u8 0), (.int .u8 0), (.int .u8 0), (.int .u8 0), (.int .u8 0), (.int .u8 0), (.int .u8 0), (.int .u8 0), (.int .u8 0), (.int .u8 0), (.int .u8 0), (.int .u8 0), (.int .u8 0), (.int .u8 0)] [(.v (.int .u8 0)), (.v (.int .u8 0)), (.v (.int .u8 0)), (.v (.int .u8 0)), (.v (.int .u8 0)), (.v (.int .u8 0)), (.v (.int .u8 0)), (.v (.int .u8 0)), (.v (.int .u8 0)), (.v (.int .u8 0)), (.v (.int .u8 0)), (.v (.int .u8 0)), (.v (.int .u8 0)), (.v (.int .u8 0)), (.v (.int .u8 0)), (.v (.int .u8 0)), (.v (.int .u8 0)), (.v (.int .u8 0)), (.v (.int .u8 0)), (.v (.int .u8 0)), (.v (.int .u8 0)), (.v (.int .u8 0)), (.v (.int .u8 0)), (.v (.int .u8 0)), (.v (.int .u8 0)), (.v (.int .u8 0)), (.v (.int .u8 0)), (.v (.int .u8 0)), (.v (.int .u8 0)), (.v (.int .u8 0)), (.v (.int .u8 0)), (.v (.int .u8 0)), (.v (.int .u8 0)), (.v (.int .u8 0)), (.v (.int .u8 0)), (.v (.int .u8 0)), (.v (.int .u8 0)), (.v (.int .u8 0)), (.v (.int .u8 0)), (.v (.int .u8 0)), (.v (.int .u8 0)), (.v (.int .u8 0)), (.v (.int .u8 0)), (.v (.int .u8 0)), (.v (.int .u8 0)), (.v (.int .u8 0)), (.v (.int .u8 0)), (.v (.int .u8 0)), (.v (.int .u8 0)), (.v (.int .u8 0)), (.v (.int .u8 0)), (.v (.int .u8 0)), (.v (.int .u8 0)), (.v (.int .u8 0)), (.v (.int .u8 0)), (.v (.int .u8 0)), (.v (.int .u8 0)), (.v (.int .u8 0)), (.v (.int .u8 0)), (.v (.int .u8 0)), (.v (.int .u8 0)), (.v (.int .u8 0)), (.v (.int .u8 0)), (.v (.int .u8 0))] := .int _ _ (.int _ _ (.int _ _ (.int _ _ (.int _ _ (.int _ _ (.int _ _ (.int _ _ (.int _ _ (.int _ _ (.int _ _ (.int _ _ (.int _ _ (.int _ _ (.int _ _ (.int _ _ (.int _ _ (.int _ _ (.int _ _ (.int _ _ (.int _ _ (.int _ _ (.int _ _ (.int _ _ (.int _ _ (.int _ _ (.int _ _ (.int _ _ (.int _ _ (.int _ _ (.int _ _ (.int _ _ (.int _ _ (.int _ _ (.int _ _ (.int _ _ (.int _ _ (.int _ _ (.int _ _ (.int _ _ (.int _ _ (.int _ _ (.int _ _ (.int _ _ (.int _ _ (.int _ _ (.int _ _ (.int _ _ (.int _ _ (.int _ _ (.int _ _ (.int _ _ (.int _ _ (.int _ _ (.int _ _ (.int _ _ (.int _ _ (.int _ _ (.int _ _ (.int _ _ (.int _ _ (.int _ _ (.int _ _ (.int _ _ (.nil))))))))))))))))))))))))))))))))))))))))))))))))))))))))))))))))
theorem sz_98 : sizeB Tryd.prog 98 = some (false, 1) := by kernel_rfl
theorem zi_98 : infoB Tryd.prog 98 = some (1, 8) := by kernel_rfl
theorem zv_98 : zeroV Tryd.prog 98 = some .nilFunc := by kernel_rfl
theorem zc_98 : zeroCs Tryd.prog 98 = some [.nilFunc] := by kernel_rfl
theorem zl_98 : Lits [.nilFunc] [(.v (.lit .nilFunc))] := .lit _ rfl (.nil)
theorem sz_99 : sizeB Tryd.prog 99 = some (false, 1) := by kernel_rfl
theorem zi_99 : infoB Tryd.prog 99 = some (1, 8) := by kernel_rfl
theorem zv_99 : zeroV Tryd.prog 99 = some .nilFunc := by kernel_rfl
theorem zc_99 : zeroCs Tryd.prog 99 = some [.nilFunc] := by kernel_rfl
theorem zl_99 : Lits [.nilFunc] [(.v (.lit .nilFunc))] := .lit _ rfl (.nil)
theorem sz_100 : sizeB Tryd.prog 100 = some (false, 1) := by kernel_rfl
theorem zi_100 : infoB Tryd.prog 100 = some (1, 8) := by kernel_rfl
theorem zv_100 : zeroV Tryd.prog 100 = some .nilFunc := by kernel_rfl
theorem zc_100 : zeroCs Tryd.prog 100 = some [.nilFunc] := by kernel_rfl
theorem zl_100 : Lits [.nilFunc] [(.v (.lit .nilFunc))] := .lit _ rfl (.nil)
theorem sz_101 : sizeB Tryd.prog 101 = some (false, 1) := by kernel_rfl
theorem zi_101 : infoB Tryd.prog 101 = some (1, 8) := by kernel_rfl
theorem zv_101 : zeroV Tryd.prog 101 = some (.int .u64 0) := by kernel_rfl
theorem zc_101 : zeroCs Tryd.prog 101 = some [(.int .u64 0)] := by kernel_rfl
theorem zl_101 : Lits [(.int .u64 0)] [(.v (.int .u64 0))] := .int _ _ (.nil)
theorem sz_102 : sizeB Tryd.prog 102 = some (false, 1) := by kernel_rfl
theorem zi_102 : infoB Tryd.prog 102 = some (1, 8) := by kernel_rfl
theorem zv_102 : zeroV Tryd.prog 102 = some .nilFunc := by kernel_rfl
theorem zc_102 : zeroCs Tryd.prog 102 = some [.nilFunc] := by kernel_rfl
theorem zl_102 : Lits [.nilFunc] [(.v (.lit .nilFunc))] := .lit _ rfl (.nil)
theorem sz_103 : sizeB Tryd.prog 103 = some (false, 1) := by kernel_rfl
theorem zi_103 : infoB Tryd.prog 103 = some (1, 8) := by kernel_rfl
theorem zv_103 : zeroV Tryd.prog 103 = some .nilFunc := by kernel_rfl
theorem zc_103 : zeroCs Tryd.prog 103 = some [.nilFunc] := by kernel_rfl
theorem zl_103 : Lits [.nilFunc] [(.v (.lit .nilFunc))] := .lit _ rfl (.nil)
theorem sz_104 : sizeB Tryd.prog 104 = some (false, 1) := by kernel_rfl
theorem zi_104 : infoB Tryd.prog 104 = some (1, 8) := by kernel_rfl
theorem zv_104 : zeroV Tryd.prog 104 = some .nilFunc := by kernel_rfl
theorem zc_104 : zeroCs Tryd.prog 104 = some [.nilFunc] := by kernel_rfl
theorem zl_104 : Lits [.nilFunc] [(.v (.lit .nilFunc))] := .lit _ rfl (.nil)
theorem sz_105 : sizeB Tryd.prog 105 = some (false, 1) := by kernel_rfl
theorem sz_106 : sizeB Tryd.prog 106 = some (false, 1) := by kernel_rfl
theorem zi_106 : infoB Tryd.prog 106 = some (1, 8) := by kernel_rfl
theorem zv_106 : zeroV Tryd.prog 106 = some .nilFunc := by kernel_rfl
theorem zc_106 : zeroCs Tryd.prog 106 = some [.nilFunc] := by kernel_rfl
theorem zl_106 : Lits [.nilFunc] [(.v (.lit .nilFunc))] := .lit _ rfl (.nil)
theorem sz_107 : sizeB Tryd.prog 107 = some (false, 1) := by kernel_rfl
theorem zi_107 : infoB Tryd.prog 107 = some (1, 8) := by kernel_rfl
theorem zv_107 : zeroV Tryd.prog 107 = some .nilFunc := by kernel_rfl
theorem zc_107 : zeroCs Tryd.prog 107 = some [.nilFunc] := by kernel_rfl
theorem zl_107 : Lits [.nilFunc] [(.v (.lit .nilFunc))] := .lit _ rfl (.nil)
theorem sz_108 : sizeB Tryd.prog 108 = some (false, 1) := by kernel_rfl
theorem zi_108 : infoB Tryd.prog 108 = some (1, 8) := by kernel_rfl
theorem zv_108 : zeroV Tryd.prog 108 = some .nilFunc := by kernel_rfl
theorem zc_108 : zeroCs Tryd.prog 108 = some [.nilFunc] := by kernel_rfl
theorem zl_108 : Lits [.nilFunc] [(.v (.lit .nilFunc))] := .lit _ rfl (.nil)
theorem sz_109 : sizeB Tryd.prog 109 = some (false, 1) := by kernel_rfl
theorem zi_109 : infoB Tryd.prog 109 = some (1, 4) := by kernel_rfl
theorem zv_109 : zeroV Tryd.prog 109 = some (.int .u32 0) := by kernel_rfl
theorem zc_109 : zeroCs Tryd.prog 109 = some [(.int .u32 0)] := by kernel_rfl
theorem zl_109 : Lits [(.int .u32 0)] [(.v (.int .u32 0))] := .int _ _ (.nil)
theorem sz_110 : sizeB Tryd.prog 110 = some (false, 1) := by kernel_rfl
theorem sz_111 : sizeB Tryd.prog 111 = some (false, 1) := by kernel_rfl
theorem zi_111 : infoB Tryd.prog 111 = some (1, 8) := by kernel_rfl
theorem zv_111 : zeroV Tryd.prog 111 = some .nilFunc := by kernel_rfl
theorem zc_111 : zeroCs Tryd.prog 111 = some [.nilFunc] := by kernel_rfl
theorem zl_111 : Lits [.nilFunc] [(.v (.lit .nilFunc))] := .lit _ rfl (.nil)
theorem sz_112 : sizeB Tryd.prog 112 = some (false, 1) := by kernel_rfl
theorem zi_112 : infoB Tryd.prog 112 = some (1, 8) := by kernel_rfl
theorem zv_112 : zeroV Tryd.prog 112 = some .nilFunc := by kernel_rfl
theorem zc_112 : zeroCs Tryd.prog 112 = some [.nilFunc] := by kernel_rfl
theorem zl_112 : Lits [.nilFunc] [(.v (.lit .nilFunc))] := .lit _ rfl (.nil)
theorem sz_113 : sizeB Tryd.prog 113 = some (false, 1) := by kernel_rfl
theorem zi_113 : infoB Tryd.prog 113 = some (1, 8) := by kernel_rfl
theorem zv_113 : zeroV Tryd.prog 113 = some .nilFunc := by kernel_rfl
theorem zc_113 : zeroCs Tryd.prog 113 = some [.nilFunc] := by kernel_rfl
theorem zl_113 : Lits [.nilFunc] [(.v (.lit .nilFunc))] := .lit _ rfl (.nil)
theorem sz_114 : sizeB Tryd.prog 114 = some (false, 1) := by kernel_rfl
theorem zi_114 : infoB Tryd.prog 114 = some (1, 8) := by kernel_rfl
theorem zv_114 : zeroV Tryd.prog 114 = some .nilFunc := by kernel_rfl
theorem zc_114 : zeroCs Tryd.prog 114 = some [.nilFunc] := by kernel_rfl
theorem zl_114 : Lits [.nilFunc] [(.v (.lit .nilFunc))] := .lit _ rfl (.nil)
theorem sz_115 : sizeB Tryd.prog 115 = some (true, 256) := by kernel_rfl
theorem sz_116 : sizeB Tryd.prog 116 = some (true, 256) := by kernel_rfl
theorem sz_117 : sizeB Tryd.prog 117 = some (false, 1) := by kernel_rfl
theorem sz_118 : sizeB Tryd.prog 118 = some (false, 1) := by kernel_rfl
theorem zi_118 : infoB Tryd.prog 118 = some (1, 8) := by kernel_rfl
theorem zv_118 : zeroV Tryd.prog 118 = some .nilFunc := by kernel_rfl
theorem zc_118 : zeroCs Tryd.prog 118 = some [.nilFunc] := by kernel_rfl
theorem zl_118 : Lits [.nilFunc] [(.v (.lit .nilFunc))] := .lit _ rfl (.nil)
theorem sz_119 : sizeB Tryd.prog 119 = some (false, 1) := by kernel_rfl
theorem sz_120 : sizeB Tryd.prog 120 = some (false, 1) := by kernel_rfl
theorem zi_120 : infoB Tryd.prog 120 = some (1, 8) := by kernel_rfl
theorem zv_120 : zeroV Tryd.prog 120 = some .nilFunc := by kernel_rfl
theorem zc_120 : zeroCs Tryd.prog 120 = some [.nilFunc] := by kernel_rfl
theorem zl_120 : Lits [.nilFunc] [(.v (.lit .nilFunc))] := .lit _ rfl (.nil)
theorem sz_121 : sizeB Tryd.prog 121 = some (false, 1) := by kernel_rfl
theorem zi_121 : infoB Tryd.prog 121 = some (1, 8) := by kernel_rfl
theorem zv_121 : zeroV Tryd.prog 121 = some .nilFunc := by kernel_rfl
theorem zc_121 : zeroCs Tryd.prog 121 = some [.nilFunc] := by kernel_rfl
theorem zl_121 : Lits [.nilFunc] [(.v (.lit .nilFunc))] := .lit _ rfl (.nil)
theorem sz_122 : sizeB Tryd.prog 122 = some (true, 256) := by kernel_rfl
theorem sz_123 : sizeB Tryd.prog 123 = some (false, 1) := by kernel_rfl
theorem sz_124 : sizeB Tryd.prog 124 = some (false, 1) := by kernel_rfl
theorem zi_124 : infoB Tryd.prog 124 = some (1, 8) := by kernel_rfl
theorem zv_124 : zeroV Tryd.prog 124 = some .nilFunc := by kernel_rfl
theorem zc_124 : zeroCs Tryd.prog 124 = some [.nilFunc] := by kernel_rfl
theorem zl_124 : Lits [.nilFunc] [(.v (.lit .nilFunc))] := .lit _ rfl (.nil)
theorem sz_125 : sizeB Tryd.prog 125 = some (false, 1) := by kernel_rfl
theorem zi_125 : infoB Tryd.prog 125 = some (1, 8) := by kernel_rfl
theorem zv_125 : zeroV Tryd.prog 125 = some .nilFunc := by kernel_rfl
theorem zc_125 : zeroCs Tryd.prog 125 = some [.nilFunc] := by kernel_rfl
theorem zl_125 : Lits [.nilFunc] [(.v (.lit .nilFunc))] := .lit _ rfl (.nil)
theorem sz_126 : sizeB Tryd.prog 126 = some (false, 1) := by kernel_rfl
theorem zi_126 : infoB Tryd.prog 126 = some (1, 8) := by kernel_rfl
theorem zv_126 : zeroV Tryd.prog 126 = some (.pointer none) := by kernel_rfl
theorem zc_126 : zeroCs Tryd.prog 126 = some [(.pointer none)] := by kernel_rfl
theorem zl_126 : Lits [(.pointer none)] [(.v (.lit (.pointer none)))] := .lit _ rfl (.nil)
theorem sz_127 : sizeB Tryd.prog 127 = some (false, 1) := by kernel_rfl
theorem zi_127 : infoB Tryd.prog 127 = some (1, 8) := by kernel_rfl
theorem zv_127 : zeroV Tryd.prog 127 = some .nilFunc := by kernel_rfl
theorem zc_127 : zeroCs Tryd.prog 127 = some [.nilFunc] := by kernel_rfl
theorem zl_127 : Lits [.nilFunc] [(.v (.lit .nilFunc))] := .lit _ rfl (.nil)
theorem sz_128 : sizeB Tryd.prog 128 = some (false, 1) := by kernel_rfl
theorem zi_128 : infoB Tryd.prog 128 = some (1, 8) := by kernel_rfl
theorem zv_128 : zeroV Tryd.prog 128 = some .nilFunc := by kernel_rfl
theorem zc_128 : zeroCs Tryd.prog 128 = some [.nilFunc] := by kernel_rfl
theorem zl_128 : Lits [.nilFunc] [(.v (.lit .nilFunc))] := .lit _ rfl (.nil)
theorem sz_129 : sizeB Tryd.prog 129 = some (false, 1) := by kernel_rfl
theorem zi_129 : infoB Tryd.prog 129 = some (1, 8) := by kernel_rfl
theorem zv_129 : zeroV Tryd.prog 129 = some .nilFunc := by kernel_rfl
theorem zc_129 : zeroCs Tryd.prog 129 = some [.nilFunc] := by kernel_rfl
theorem zl_129 : Lits [.nilFunc] [(.v (.lit .nilFunc))] := .lit _ rfl (.nil)
theorem sz_130 : sizeB Tryd.prog 130 = some (false, 1) := by kernel_rfl
theorem zi_130 : infoB Tryd.prog 130 = some (1, 8) := by kernel_rfl
theorem zv_130 : zeroV Tryd.prog 130 = some .nilFunc := by kernel_rfl
theorem zc_130 : zeroCs Tryd.prog 130 = some [.nilFunc] := by kernel_rfl
theorem zl_130 : Lits [.nilFunc] [(.v (.lit .nilFunc))] := .lit _ rfl (.nil)
theorem sz_131 : sizeB Tryd.prog 131 = some (true, 4) := by kernel_rfl
theorem pl_131 : placesB Tryd.prog 131 = some [(0, 1), (1, 1), (2, 1), (3, 1)] := by kernel_rfl
theorem zi_131 : infoB Tryd.prog 131 = some (4, 4) := by kernel_rfl
theorem zv_131 : zeroV Tryd.prog 131 = some (.agg #[(.int .u8 0), (.int .u8 0), (.int .u8 0), (.int .u8 0)]) := by kernel_rfl
theorem zc_131 : zeroCs Tryd.prog 131 = some [(.int .u8 0), (.int .u8 0), (.int .u8 0), (.int .u8 0)] := by kernel_rfl
theorem zl_131 : Lits [(.int .u8 0), (.int .u8 0), (.int .u8 0), (.int .u8 0)] [(.v (.int .u8 0)), (.v (.int .u8 0)), (.v (.int .u8 0)), (.v (.int .u8 0))] := .int _ _ (.int _ _ (.int _ _ (.int _ _ (.nil))))
theorem sz_132 : sizeB Tryd.prog 132 = some (false, 1) := by kernel_rfl
theorem zi_132 : infoB Tryd.prog 132 = some (1, 8) := by kernel_rfl
theorem zv_132 : zeroV Tryd.prog 132 = some (.pointer none) := by kernel_rfl
theorem zc_132 : zeroCs Tryd.prog 132 = some [(.pointer none)] := by kernel_rfl
theorem zl_132 : Lits [(.pointer none)] [(.v (.lit (.pointer none)))] := .lit _ rfl (.nil)
theorem sz_133 : sizeB Tryd.prog 133 = some (false, 1) := by kernel_rfl
theorem zi_133 : infoB Tryd.prog 133 = some (1, 8) := by kernel_rfl
theorem zv_133 : zeroV Tryd.prog 133 = some .nilFunc := by kernel_rfl
theorem zc_133 : zeroCs Tryd.prog 133 = some [.nilFunc] := by kernel_rfl
theorem zl_133 : Lits [.nilFunc] [(.v (.lit .nilFunc))] := .lit _ rfl (.nil)
theorem sz_134 : sizeB Tryd.prog 134 = some (false, 1) := by kernel_rfl
theorem zi_134 : infoB Tryd.prog 134 = some (1, 8) := by kernel_rfl
theorem zv_134 : zeroV Tryd.prog 134 = some .nilFunc := by kernel_rfl
theorem zc_134 : zeroCs Tryd.prog 134 = some [.nilFunc] := by kernel_rfl
theorem zl_134 : Lits [.nilFunc] [(.v (.lit .nilFunc))] := .lit _ rfl (.nil)
theorem sz_135 : sizeB Tryd.prog 135 = some (true, 256) := by kernel_rfl
theorem sz_136 : sizeB Tryd.prog 136 = some (true, 2) := by kernel_rfl
theorem fo_136_0 : fieldOff Tryd.prog 136 0 = some 0 := by kernel_rfl
theorem fo_136_1 : fieldOff Tryd.prog 136 1 = some 1 := by kernel_rfl
theorem pl_136 : placesB Tryd.prog 136 = some [(0, 1), (1, 1)] := by kernel_rfl
theorem zi_136 : infoB Tryd.prog 136 = some (2, 2) := by kernel_rfl
theorem zv_136 : zeroV Tryd.prog 136 = some (.agg #[(.int .u8 0), (.int .u8 0)]) := by kernel_rfl
theorem zc_136 : zeroCs Tryd.prog 136 = some [(.int .u8 0), (.int .u8 0)] := by kernel_rfl
theorem zl_136 : Lits [(.int .u8 0), (.int .u8 0)] [(.v (.int .u8 0)), (.v (.int .u8 0))] := .int _ _ (.int _ _ (.nil))
theorem sz_137 : sizeB Tryd.prog 137 = some (true, 2) := by kernel_rfl
theorem fo_137_0 : fieldOff Tryd.prog 137 0 = some 0 := by kernel_rfl
theorem fo_137_1 : fieldOff Tryd.prog 137 1 = some 1 := by kernel_rfl
theorem pl_137 : placesB Tryd.prog 137 = some [(0, 1), (1, 1)] := by kernel_rfl
theorem zi_137 : infoB Tryd.prog 137 = some (2, 2) := by kernel_rfl
theorem zv_137 : zeroV Tryd.prog 137 = some (.agg #[(.int .u8 0), (.int .u8 0)]) := by kernel_rfl
theorem zc_137 : zeroCs Tryd.prog 137 = some [(.int .u8 0), (.int .u8 0)] := by kernel_rfl
theorem zl_137 : Lits [(.int .u8 0), (.int .u8 0)] [(.v (.int .u8 0)), (.v (.int .u8 0))] := .int _ _ (.int _ _ (.nil))
theorem sz_138 : sizeB Tryd.prog 138 = some (true, 32) := by kernel_rfl
theorem pl_138 : placesB Tryd.prog 138 = some [(0, 2), (2, 2), (4, 2), (6, 2), (8, 2), (10, 2), (12, 2), (14, 2), (16, 2), (18, 2), (20, 2), (22, 2), (24, 2), (26, 2), (28, 2), (30, 2)] := by kernel_rfl
theorem zi_138 : infoB Tryd.prog 138 = some (32, 32) := by kernel_rfl
theorem zv_138 : zeroV Tryd.prog 138 = some (.agg #[(.int .u8 0), (.int .u8 0), (.int .u8 0), (.int .u8 0), (.int .u8 0), (.int .u8 0), (.int .u8 0), (.int .u8 0), (.int .u8 0), (.int .u8 0), (.int .u8 0), (.int .u8 0), (.int .u8 0), (.int .u8 0), (.int .u8 0), (.int .u8 0), (.int .u8 0), (.int .u8 0), (.int .u8 0), (.int .u8 0), (.int .u8 0), (.int .u8 0), (.int .u8 0), (.int .u8 0), (.int .u8 0), (.int .u8 0), (.int .u8 0), (.int .u8 0), (.int .u8 0), (.int .u8 0), (.int .u8 0), (.int .u8 0)]) := by kernel_rfl
theorem zc_138 : zeroCs Tryd.prog 138 = some [(.int .u8 0), (.int .u8 0), (.int .u8 0), (.int .u8 0), (.int .u8 0), (.int .u8 0), (.int .u8 0), (.int .u8 0), (.int .u8 0), (.int .u8 0), (.int .u8 0), (.int .u8 0), (.int .u8 0), (.int .u8 0), (.int .u8 0), (.int .u8 0), (.int .u8 0), (.int .u8 0), (.int .u8 0), (.int .u8 0), (.int .u8 0), (.int .u8 0), (.int .u8 0), (.int .u8 0), (.int .u8 0), (.int .u8 0), (.int .u8 0), (.int .u8 0), (.int .u8 0), (.int .u8 0), (.int .u8 0), (.int .u8 0)] := by kernel_rfl
theorem zl_138 : Lits [(.int .u8 0), (.int .u8 0), (.int .u8 0), (.int .u8 0), (.int .u8 0), (.int .u8 0), (.int .u8 0), (.int .u8 0), (.int .u8 0), (.int .u8 0), (.int .u8 0), (.int .u8 0), (.int .u8 0), (.int .u8 0), (.int .u8 0), (.int .u8 0), (.int .u8 0), (.int .u8 0), (.int .u8 0), (.int .u8 0), (.int .u8 0), (.int .u8 0), (.int .u8 0), (.int .u8 0), (.int .u8 0), (.int .u8 0), (.int .u8 0), (.int .u8 0), (.int .u8 0), (.int .u8 0), (.int .u8 0), (.int .u8 0)] [(.v (.int .u8 0)), (.v (.int .u8 0)), (.v (.int .u8 0)), (.v (.int .u8 0)), (.v (.int .u8 0)), (.v (.int .u8 0)), (.v (.int .u8 0)), (.v (.int .u8 0)), (.v (.int .u8 0)), (.v (.int .u8 0)), (.v (.int .u8 0)), (.v (.int .u8 0)), (.v (.int .u8 0)), (.v (.int .u8 0)), (.v (.int .u8 0)), (.v (.int .u8 0)), (.v (.int .u8 0)), (.v (.int .u8 0)), (.v (.int .u8 0)), (.v (.int .u8 0)), (.v (.int .u8 0)), (.v (.int .u8 0)), (.v (.int .u8 0)), (.v (.int .u8 0)), (.v (.int .u8 0)), (.v (.int .u8 0)), (.v (.int .u8 0)), (.v (.int .u8 0)), (.v (.int .u8 0)), (.v (.int .u8 0)), (.v (.int .u8 0)), (.v (.int .u8 0))] := .int _ _ (.int _ _ (.int _ _ (.int _ _ (.int _ _ (.int _ _ (.int _ _ (.int _ _ (.int _ _ (.int _ _ (.int _ _ (.int _ _ (.int _ _ (.int _ _ (.int _ _ (.int _ _ (.int _ _ (.int _ _ (.int _ _ (.int _ _ (.int _ _ (.int _ _ (.int _ _ (.int _ _ (.int _ _ (.int _ _ (.int _ _ (.int _ _ (.int _ _ (.int _ _ (.int _ _ (.int _ _ (.nil))))))))))))))))))))))))))))))))
theorem sz_139 : sizeB Tryd.prog 139 = some (false, 1) := by kernel_rfl
theorem zi_139 : infoB Tryd.prog 139 = some (1, 8) := by kernel_rfl
theorem zv_139 : zeroV Tryd.prog 139 = some .nilFunc := by kernel_rfl
theorem zc_139 : zeroCs Tryd.prog 139 = some [.nilFunc] := by kernel_rfl
theorem zl_139 : Lits [.nilFunc] [(.v (.lit .nilFunc))] := .lit _ rfl (.nil)
theorem sz_140 : sizeB Tryd.prog 140 = some (false, 1) := by kernel_rfl
theorem zi_140 : infoB Tryd.prog 140 = some (1, 8) := by kernel_rfl
theorem zv_140 : zeroV Tryd.prog 140 = some .nilFunc := by kernel_rfl
theorem zc_140 : zeroCs Tryd.prog 140 = some [.nilFunc] := by kernel_rfl
theorem zl_140 : Lits [.nilFunc] [(.v (.lit .nilFunc))] := .lit _ rfl (.nil)
theorem sz_141 : sizeB Tryd.prog 141 = some (false, 1) := by kernel_rfl
theorem zi_141 : infoB Tryd.prog 141 = some (1, 8) := by kernel_rfl
theorem zv_141 : zeroV Tryd.prog 141 = some (.pointer none) := by kernel_rfl
theorem zc_141 : zeroCs Tryd.prog 141 = some [(.pointer none)] := by kernel_rfl
theorem zl_141 : Lits [(.pointer none)] [(.v (.lit (.pointer none)))] := .lit _ rfl (.nil)
theorem sz_142 : sizeB Tryd.prog 142 = some (true, 4) := by kernel_rfl
theorem fo_142_0 : fieldOff Tryd.prog 142 0 = some 0 := by kernel_rfl
theorem fo_142_1 : fieldOff Tryd.prog 142 1 = some 1 := by kernel_rfl
theorem fo_142_2 : fieldOff Tryd.prog 142 2 = some 2 := by kernel_rfl
theorem fo_142_3 : fieldOff Tryd.prog 142 3 = some 3 := by kernel_rfl
theorem pl_142 : placesB Tryd.prog 142 = some [(0, 1), (1, 1), (2, 1), (3, 1)] := by kernel_rfl
theorem zi_142 : infoB Tryd.prog 142 = some (4, 40) := by kernel_rfl
theorem zv_142 : zeroV Tryd.prog 142 = some (.agg #[(.pointer none), (.pointer none), (.pointer none), (.string ByteArray.empty)]) := by kernel_rfl
theorem zc_142 : zeroCs Tryd.prog 142 = some [(.pointer none), (.pointer none), (.pointer none), (.string ByteArray.empty)] := by kernel_rfl
theorem zl_142 : Lits [(.pointer none), (.pointer none), (.pointer none), (.string ByteArray.empty)] [(.v (.lit (.pointer none))), (.v (.lit (.pointer none))), (.v (.lit (.pointer none))), (.v (.str []))] := .lit _ rfl (.lit _ rfl (.lit _ rfl (.str (.nil))))
theorem sz_143 : sizeB Tryd.prog 143 = some (true, 4) := by kernel_rfl
theorem fo_143_0 : fieldOff Tryd.prog 143 0 = some 0 := by kernel_rfl
theorem fo_143_1 : fieldOff Tryd.prog 143 1 = some 1 := by kernel_rfl
theorem fo_143_2 : fieldOff Tryd.prog 143 2 = some 2 := by kernel_rfl
theorem fo_143_3 : fieldOff Tryd.prog 143 3 = some 3 := by kernel_rfl
theorem pl_143 : placesB Tryd.prog 143 = some [(0, 1), (1, 1), (2, 1), (3, 1)] := by kernel_rfl
theorem zi_143 : infoB Tryd.prog 143 = some (4, 40) := by kernel_rfl
theorem zv_143 : zeroV Tryd.prog 143 = some (.agg #[(.pointer none), (.pointer none), (.pointer none), (.string ByteArray.empty)]) := by kernel_rfl
theorem zc_143 : zeroCs Tryd.prog 143 = some [(.pointer none), (.pointer none), (.pointer none), (.string ByteArray.empty)] := by kernel_rfl
theorem zl_143 : Lits [(.pointer none), (.pointer none), (.pointer none), (.string ByteArray.empty)] [(.v (.lit (.pointer none))), (.v (.lit (.pointer none))), (.v (.lit (.pointer none))), (.v (.str []))] := .lit _ rfl (.lit _ rfl (.lit _ rfl (.str (.nil))))
theorem sz_144 : sizeB Tryd.prog 144 = some (true, 0) := by kernel_rfl
theorem pl_144 : placesB Tryd.prog 144 = some [] := by kernel_rfl
theorem zv_144 : zeroV Tryd.prog 144 = some (.agg #[]) := by kernel_rfl
theorem zc_144 : zeroCs Tryd.prog 144 = some [] := by kernel_rfl
theorem zl_144 : Lits [] [] := .nil
theorem sz_145 : sizeB Tryd.prog 145 = some (true, 0) := by kernel_rfl
theorem pl_145 : placesB Tryd.prog 145 = some [(0, 0)] := by kernel_rfl
theorem zv_145 : zeroV Tryd.prog 145 = some (.agg #[]) := by kernel_rfl
theorem zc_145 : zeroCs Tryd.prog 145 = some [] := by kernel_rfl
theorem zl_145 : Lits [] [] := .nil
theorem sz_146 : sizeB Tryd.prog 146 = some (true, 0) := by kernel_rfl
theorem pl_146 : placesB Tryd.prog 146 = some [(0, 0)] := by kernel_rfl
theorem zv_146 : zeroV Tryd.prog 146 = some (.agg #[]) := by kernel_rfl
theorem zc_146 : zeroCs Tryd.prog 146 = some [] := by kernel_rfl
theorem zl_146 : Lits [] [] := .nil
theorem sz_147 : sizeB Tryd.prog 147 = some (false, 1) := by kernel_rfl
theorem zi_147 : infoB Tryd.prog 147 = some (1, 1) := by kernel_rfl
theorem by_147 : byteB Tryd.prog 147 = true := by kernel_rfl
theorem zv_147 : zeroV Tryd.prog 147 = some (.int .u8 0) := by kernel_rfl
theorem zc_147 : zeroCs Tryd.prog 147 = some [(.int .u8 0)] := by kernel_rfl
theorem zl_147 : Lits [(.int .u8 0)] [(.v (.int .u8 0))] := .int _ _ (.nil)
theorem sz_148 : sizeB Tryd.prog 148 = some (false, 1) := by kernel_rfl
theorem zi_148 : infoB Tryd.prog 148 = some (1, 1) := by kernel_rfl
theorem by_148 : byteB Tryd.prog 148 = true := by kernel_rfl
theorem zv_148 : zeroV Tryd.prog 148 = some (.int .u8 0) := by kernel_rfl
theorem zc_148 : zeroCs Tryd.prog 148 = some [(.int .u8 0)] := by kernel_rfl
theorem zl_148 : Lits [(.int .u8 0)] [(.v (.int .u8 0))] := .int _ _ (.nil)
theorem sz_149 : sizeB Tryd.prog 149 = some (false, 1) := by kernel_rfl
theorem zi_149 : infoB Tryd.prog 149 = some (1, 8) := by kernel_rfl
theorem zv_149 : zeroV Tryd.prog 149 = some .nilFunc := by kernel_rfl
theorem zc_149 : zeroCs Tryd.prog 149 = some [.nilFunc] := by kernel_rfl
theorem zl_149 : Lits [.nilFunc] [(.v (.lit .nilFunc))] := .lit _ rfl (.nil)
theorem sz_150 : sizeB Tryd.prog 150 = some (false, 1) := by kernel_rfl
theorem zi_150 : infoB Tryd.prog 150 = some (1, 8) := by kernel_rfl
theorem zv_150 : zeroV Tryd.prog 150 = some (.pointer none) := by kernel_rfl
theorem zc_150 : zeroCs Tryd.prog 150 = some [(.pointer none)] := by kernel_rfl
theorem zl_150 : Lits [(.pointer none)] [(.v (.lit (.pointer none)))] := .lit _ rfl (.nil)
theorem sz_151 : sizeB Tryd.prog 151 = some (false, 1) := by kernel_rfl
theorem zi_151 : infoB Tryd.prog 151 = some (1, 4) := by kernel_rfl
theorem zv_151 : zeroV Tryd.prog 151 = some (.int .i32 0) := by kernel_rfl
theorem zc_151 : zeroCs Tryd.prog 151 = some [(.int .i32 0)] := by kernel_rfl
theorem zl_151 : Lits [(.int .i32 0)] [(.v (.int .i32 0))] := .int _ _ (.nil)
theorem sz_152 : sizeB Tryd.prog 152 = some (false, 1) := by kernel_rfl
theorem zi_152 : infoB Tryd.prog 152 = some (1, 4) := by kernel_rfl
theorem zv_152 : zeroV Tryd.prog 152 = some (.int .i32 0) := by kernel_rfl
theorem zc_152 : zeroCs Tryd.prog 152 = some [(.int .i32 0)] := by kernel_rfl
theorem zl_152 : Lits [(.int .i32 0)] [(.v (.int .i32 0))] := .int _ _ (.nil)
theorem sz_153 : sizeB Tryd.prog 153 = some (true, 11) := by kernel_rfl
theorem fo_153_0 : fieldOff Tryd.prog 153 0 = some 0 := by kernel_rfl
theorem fo_153_1 : fieldOff Tryd.prog 153 1 = some 1 := by kernel_rfl
theorem fo_153_2 : fieldOff Tryd.prog 153 2 = some 2 := by kernel_rfl
theorem fo_153_3 : fieldOff Tryd.prog 153 3 = some 3 := by kernel_rfl
theorem fo_153_4 : fieldOff Tryd.prog 153 4 = some 4 := by kernel_rfl
theorem fo_153_5 : fieldOff Tryd.prog 153 5 = some 5 := by kernel_rfl
theorem fo_153_6 : fieldOff Tryd.prog 153 6 = some 6 := by kernel_rfl
theorem fo_153_7 : fieldOff Tryd.prog 153 7 = some 7 := by kernel_rfl
theorem fo_153_8 : fieldOff Tryd.prog 153 8 = some 8 := by kernel_rfl
theorem fo_153_9 : fieldOff Tryd.prog 153 9 = some 9 := by kernel_rfl
theorem fo_153_10 : fieldOff Tryd.prog 153 10 = some 10 := by kernel_rfl
theorem pl_153 : placesB Tryd.prog 153 = some [(0, 1), (1, 1), (2, 1), (3, 1), (4, 1), (5, 1), (6, 1), (7, 1), (8, 1), (9, 1), (10, 1)] := by kernel_rfl
theorem zi_153 : infoB Tryd.prog 153 = some (11, 48) := by kernel_rfl
theorem zv_153 : zeroV Tryd.prog 153 = some (.agg #[(.int .u64 0), (.int .u64 0), (.int .u32 0), (.int .u8 0), (.int .u8 0), (.int .u8 0), (.int .u8 0), .nilFunc, (.pointer none), (.int .i32 0), (.int .i32 0)]) := by kernel_rfl
theorem zc_153 : zeroCs Tryd.prog 153 = some [(.int .u64 0), (.int .u64 0), (.int .u32 0), (.int .u8 0), (.int .u8 0), (.int .u8 0), (.int .u8 0), .nilFunc, (.pointer none), (.int .i32 0), (.int .i32 0)] := by kernel_rfl
theorem zl_153 : Lits [(.int .u64 0), (.int .u64 0), (.int .u32 0), (.int .u8 0), (.int .u8 0), (.int .u8 0), (.int .u8 0), .nilFunc, (.pointer none), (.int .i32 0), (.int .i32 0)] [(.v (.int .u64 0)), (.v (.int .u64 0)), (.v (.int .u32 0)), (.v (.int .u8 0)), (.v (.int .u8 0)), (.v (.int .u8 0)), (.v (.int .u8 0)), (.v (.lit .nilFunc)), (.v (.lit (.pointer none))), (.v (.int .i32 0)), (.v (.int .i32 0))] := .int _ _ (.int _ _ (.int _ _ (.int _ _ (.int _ _ (.int _ _ (.int _ _ (.lit _ rfl (.lit _ rfl (.int _ _ (.int _ _ (.nil)))))))))))
theorem sz_154 : sizeB Tryd.prog 154 = some (true, 11) := by kernel_rfl
theorem fo_154_0 : fieldOff Tryd.prog 154 0 = some 0 := by kernel_rfl
theorem fo_154_1 : fieldOff Tryd.prog 154 1 = some 1 := by kernel_rfl
theorem fo_154_2 : fieldOff Tryd.prog 154 2 = some 2 := by kernel_rfl
theorem fo_154_3 : fieldOff Tryd.prog 154 3 = some 3 := by kernel_rfl
theorem fo_154_4 : fieldOff Tryd.prog 154 4 = some 4 := by kernel_rfl
theorem fo_154_5 : fieldOff Tryd.prog 154 5 = some 5 := by kernel_rfl
theorem fo_154_6 : fieldOff Tryd.prog 154 6 = some 6 := by kernel_rfl
theorem fo_154_7 : fieldOff Tryd.prog 154 7 = some 7 := by kernel_rfl
theorem fo_154_8 : fieldOff Tryd.prog 154 8 = some 8 := by kernel_rfl
theorem fo_154_9 : fieldOff Tryd.prog 154 9 = some 9 := by kernel_rfl
theorem fo_154_10 : fieldOff Tryd.prog 154 10 = some 10 := by kernel_rfl
theorem pl_154 : placesB Tryd.prog 154 = some [(0, 1), (1, 1), (2, 1), (3, 1), (4, 1), (5, 1), (6, 1), (7, 1), (8, 1), (9, 1), (10, 1)] := by kernel_rfl
theorem zi_154 : infoB Tryd.prog 154 = some (11, 48) := by kernel_rfl
theorem zv_154 : zeroV Tryd.prog 154 = some (.agg #[(.int .u64 0), (.int .u64 0), (.int .u32 0), (.int .u8 0), (.int .u8 0), (.int .u8 0), (.int .u8 0), .nilFunc, (.pointer none), (.int .i32 0), (.int .i32 0)]) := by kernel_rfl
theorem zc_154 : zeroCs Tryd.prog 154 = some [(.int .u64 0), (.int .u64 0), (.int .u32 0), (.int .u8 0), (.int .u8 0), (.int .u8 0), (.int .u8 0), .nilFunc, (.pointer none), (.int .i32 0), (.int .i32 0)] := by kernel_rfl
theorem zl_154 : Lits [(.int .u64 0), (.int .u64 0), (.int .u32 0), (.int .u8 0), (.int .u8 0), (.int .u8 0), (.int .u8 0), .nilFunc, (.pointer none), (.int .i32 0), (.int .i32 0)] [(.v (.int .u64 0)), (.v (.int .u64 0)), (.v (.int .u32 0)), (.v (.int .u8 0)), (.v (.int .u8 0)), (.v (.int .u8 0)), (.v (.int .u8 0)), (.v (.lit .nilFunc)), (.v (.lit (.pointer none))), (.v (.int .i32 0)), (.v (.int .i32 0))] := .int _ _ (.int _ _ (.int _ _ (.int _ _ (.int _ _ (.int _ _ (.int _ _ (.lit _ rfl (.lit _ rfl (.int _ _ (.int _ _ (.nil)))))))))))
theorem sz_155 : sizeB Tryd.prog 155 = some (true, 1) := by kernel_rfl
theorem fo_155_0 : fieldOff Tryd.prog 155 0 = some 0 := by kernel_rfl
theorem pl_155 : placesB Tryd.prog 155 = some [(0, 1)] := by kernel_rfl
theorem zi_155 : infoB Tryd.prog 155 = some (1, 16) := by kernel_rfl
theorem zv_155 : zeroV Tryd.prog 155 = some (.agg #[(.string ByteArray.empty)]) := by kernel_rfl
theorem zc_155 : zeroCs Tryd.prog 155 = some [(.string ByteArray.empty)] := by kernel_rfl
theorem zl_155 : Lits [(.string ByteArray.empty)] [(.v (.str []))] := .str (.nil)
theorem sz_156 : sizeB Tryd.prog 156 = some (true, 1) := by kernel_rfl
theorem fo_156_0 : fieldOff Tryd.prog 156 0 = some 0 := by kernel_rfl
theorem pl_156 : placesB Tryd.prog 156 = some [(0, 1)] := by kernel_rfl
theorem zi_156 : infoB Tryd.prog 156 = some (1, 16) := by kernel_rfl
theorem zv_156 : zeroV Tryd.prog 156 = some (.agg #[(.string ByteArray.empty)]) := by kernel_rfl
theorem zc_156 : zeroCs Tryd.prog 156 = some [(.string ByteArray.empty)] := by kernel_rfl
theorem zl_156 : Lits [(.string ByteArray.empty)] [(.v (.str []))] := .str (.nil)
theorem sz_157 : sizeB Tryd.prog 157 = some (false, 1) := by kernel_rfl
theorem zi_157 : infoB Tryd.prog 157 = some (1, 8) := by kernel_rfl
theorem zv_157 : zeroV Tryd.prog 157 = some (.pointer none) := by kernel_rfl
theorem zc_157 : zeroCs Tryd.prog 157 = some [(.pointer none)] := by kernel_rfl
theorem zl_157 : Lits [(.pointer none)] [(.v (.lit (.pointer none)))] := .lit _ rfl (.nil)
theorem sz_158 : sizeB Tryd.prog 158 = some (false, 1) := by kernel_rfl
theorem zi_158 : infoB Tryd.prog 158 = some (1, 8) := by kernel_rfl
theorem zv_158 : zeroV Tryd.prog 158 = some .nilFunc := by kernel_rfl
theorem zc_158 : zeroCs Tryd.prog 158 = some [.nilFunc] := by kernel_rfl
theorem zl_158 : Lits [.nilFunc] [(.v (.lit .nilFunc))] := .lit _ rfl (.nil)
theorem sk_47 : structK Tryd.prog 47 = some [.str, .str, .bool] := by kernel_rfl
theorem sk_66 : structK Tryd.prog 66 = some [.int .i64] := by kernel_rfl
theorem mx_all : Tryd.prog.follows .mixedOrders = true := by kernel_rfl
theorem en_2 : entersB Tryd.prog 2 = true := by kernel_rfl
theorem en_3 : entersB Tryd.prog 3 = true := by kernel_rfl
theorem en_4 : entersB Tryd.prog 4 = true := by kernel_rfl
theorem en_5 : entersB Tryd.prog 5 = true := by kernel_rfl
theorem en_6 : entersB Tryd.prog 6 = true := by kernel_rfl
theorem en_7 : entersB Tryd.prog 7 = true := by kernel_rfl
theorem en_8 : entersB Tryd.prog 8 = true := by kernel_rfl
theorem en_9 : entersB Tryd.prog 9 = true := by kernel_rfl
theorem en_10 : entersB Tryd.prog 10 = true := by kernel_rfl
theorem en_11 : entersB Tryd.prog 11 = true := by kernel_rfl
theorem en_12 : entersB Tryd.prog 12 = true := by kernel_rfl
theorem en_13 : entersB Tryd.prog 13 = true := by kernel_rfl
theorem en_14 : entersB Tryd.prog 14 = true := by kernel_rfl
theorem en_15 : entersB Tryd.prog 15 = true := by kernel_rfl
theorem en_16 : entersB Tryd.prog 16 = true := by kernel_rfl
theorem en_17 : entersB Tryd.prog 17 = true := by kernel_rfl
theorem en_18 : entersB Tryd.prog 18 = true := by kernel_rfl
theorem en_19 : entersB Tryd.prog 19 = true := by kernel_rfl
theorem en_20 : entersB Tryd.prog 20 = true := by kernel_rfl
theorem en_21 : entersB Tryd.prog 21 = true := by kernel_rfl
theorem en_22 : entersB Tryd.prog 22 = true := by kernel_rfl
theorem en_23 : entersB Tryd.prog 23 = true := by kernel_rfl
theorem en_24 : entersB Tryd.prog 24 = true := by kernel_rfl
theorem en_25 : entersB Tryd.prog 25 = true := by kernel_rfl
theorem en_26 : entersB Tryd.prog 26 = true := by kernel_rfl
theorem en_27 : entersB Tryd.prog 27 = true := by kernel_rfl
theorem en_28 : entersB Tryd.prog 28 = true := by kernel_rfl
theorem en_29 : entersB Tryd.prog 29 = true := by kernel_rfl
theorem en_30 : entersB Tryd.prog 30 = true := by kernel_rfl
theorem en_31 : entersB Tryd.prog 31 = true := by kernel_rfl
theorem en_32 : entersB Tryd.prog 32 = true := by kernel_rfl
theorem en_33 : entersB Tryd.prog 33 = true := by kernel_rfl
theorem en_34 : entersB Tryd.prog 34 = true := by kernel_rfl
theorem en_35 : entersB Tryd.prog 35 = true := by kernel_rfl
theorem en_36 : entersB Tryd.prog 36 = true := by kernel_rfl
theorem en_37 : entersB Tryd.prog 37 = true := by kernel_rfl
theorem en_38 : entersB Tryd.prog 38 = true := by kernel_rfl
theorem en_39 : entersB Tryd.prog 39 = true := by kernel_rfl
theorem en_40 : entersB Tryd.prog 40 = true := by kernel_rfl
theorem en_41 : entersB Tryd.prog 41 = true := by kernel_rfl
theorem en_42 : entersB Tryd.prog 42 = true := by kernel_rfl
theorem en_43 : entersB Tryd.prog 43 = true := by kernel_rfl
theorem en_44 : entersB Tryd.prog 44 = true := by kernel_rfl
theorem en_45 : entersB Tryd.prog 45 = true := by kernel_rfl
theorem en_46 : entersB Tryd.prog 46 = true := by kernel_rfl
theorem en_47 : entersB Tryd.prog 47 = true := by kernel_rfl
theorem en_48 : entersB Tryd.prog 48 = true := by kernel_rfl
theorem en_49 : entersB Tryd.prog 49 = true := by kernel_rfl
theorem en_50 : entersB Tryd.prog 50 = true := by kernel_rfl
theorem en_51 : entersB Tryd.prog 51 = true := by kernel_rfl
theorem en_52 : entersB Tryd.prog 52 = true := by kernel_rfl
theorem en_53 : entersB Tryd.prog 53 = true := by kernel_rfl
theorem en_54 : entersB Tryd.prog 54 = true := by kernel_rfl
theorem en_55 : entersB Tryd.prog 55 = true := by kernel_rfl
theorem en_56 : entersB Tryd.prog 56 = true := by kernel_rfl
theorem en_57 : entersB Tryd.prog 57 = true := by kernel_rfl
theorem en_58 : entersB Tryd.prog 58 = true := by kernel_rfl
theorem en_59 : entersB Tryd.prog 59 = true := by kernel_rfl
theorem en_60 : entersB Tryd.prog 60 = true := by kernel_rfl
theorem en_61 : entersB Tryd.prog 61 = true := by kernel_rfl
theorem en_62 : entersB Tryd.prog 62 = true := by kernel_rfl
theorem en_63 : entersB Tryd.prog 63 = true := by kernel_rfl
theorem en_64 : entersB Tryd.prog 64 = true := by kernel_rfl
theorem en_65 : entersB Tryd.prog 65 = true := by kernel_rfl
theorem en_66 : entersB Tryd.prog 66 = true := by kernel_rfl
theorem en_67 : entersB Tryd.prog 67 = true := by kernel_rfl
theorem en_68 : entersB Tryd.prog 68 = true := by kernel_rfl
theorem en_69 : entersB Tryd.prog 69 = true := by kernel_rfl
theorem en_70 : entersB Tryd.prog 70 = true := by kernel_rfl
theorem en_71 : entersB Tryd.prog 71 = true := by kernel_rfl
theorem en_72 : entersB Tryd.prog 72 = true := by kernel_rfl
theorem en_73 : entersB Tryd.prog 73 = true := by kernel_rfl
theorem en_74 : entersB Tryd.prog 74 = true := by kernel_rfl
theorem en_75 : entersB Tryd.prog 75 = true := by kernel_rfl
theorem en_77 : entersB Tryd.prog 77 = true := by kernel_rfl
theorem en_78 : entersB Tryd.prog 78 = true := by kernel_rfl
theorem en_79 : entersB Tryd.prog 79 = true := by kernel_rfl
theorem en_80 : entersB Tryd.prog 80 = true := by kernel_rfl
theorem en_81 : entersB Tryd.prog 81 = true := by kernel_rfl
theorem en_82 : entersB Tryd.prog 82 = true := by kernel_rfl
theorem en_83 : entersB Tryd.prog 83 = true := by kernel_rfl
theorem en_84 : entersB Tryd.prog 84 = true := by kernel_rfl
theorem en_85 : entersB Tryd.prog 85 = true := by kernel_rfl
theorem en_86 : entersB Tryd.prog 86 = true := by kernel_rfl
theorem en_87 : entersB Tryd.prog 87 = true := by kernel_rfl
theorem en_88 : entersB Tryd.prog 88 = true := by kernel_rfl
theorem en_89 : entersB Tryd.prog 89 = true := by kernel_rfl
theorem en_90 : entersB Tryd.prog 90 = true := by kernel_rfl
theorem en_91 : entersB Tryd.prog 91 = true := by kernel_rfl
theorem en_93 : entersB Tryd.prog 93 = true := by kernel_rfl
theorem en_95 : entersB Tryd.prog 95 = true := by kernel_rfl
theorem en_96 : entersB Tryd.prog 96 = true := by kernel_rfl
theorem en_97 : entersB Tryd.prog 97 = true := by kernel_rfl
theorem en_98 : entersB Tryd.prog 98 = true := by kernel_rfl
theorem en_99 : entersB Tryd.prog 99 = true := by kernel_rfl
theorem en_101 : entersB Tryd.prog 101 = true := by kernel_rfl
theorem en_102 : entersB Tryd.prog 102 = true := by kernel_rfl
theorem en_103 : entersB Tryd.prog 103 = true := by kernel_rfl
theorem en_104 : entersB Tryd.prog 104 = true := by kernel_rfl
theorem en_105 : entersB Tryd.prog 105 = true := by kernel_rfl
theorem en_106 : entersB Tryd.prog 106 = true := by kernel_rfl
end Go.Proofs.YtnjbfiejgiaibaaDoor
