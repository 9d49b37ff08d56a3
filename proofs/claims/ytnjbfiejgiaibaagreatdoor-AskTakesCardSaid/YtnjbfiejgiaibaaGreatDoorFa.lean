/- Of this translation's types the sizes, the fields' places and the zeros; of its functions that they are entered. No condition. Printed by a program of this work. -/
import Derived.Test.YtnjbfiejgiaibaaGreatDoorProg
import Derived.Test.YtnjbfiejgiaibaaGreatDoorAu
import Derived.KernelRfl
namespace Go.Proofs.YtnjbfiejgiaibaaGreatDoor
set_option linter.all false
open Go Go.RowKit
theorem sz_0 : sizeB Tryz.prog 0 = some (false, 1) := by kernel_rfl
theorem sz_1 : sizeB Tryz.prog 1 = some (false, 1) := by kernel_rfl
theorem zi_1 : infoB Tryz.prog 1 = some (1, 8) := by kernel_rfl
theorem zv_1 : zeroV Tryz.prog 1 = some .nilFunc := by kernel_rfl
theorem zc_1 : zeroCs Tryz.prog 1 = some [.nilFunc] := by kernel_rfl
theorem zl_1 : Lits [.nilFunc] [(.v (.lit .nilFunc))] := .lit _ rfl (.nil)
theorem sz_2 : sizeB Tryz.prog 2 = some (false, 1) := by kernel_rfl
theorem zi_2 : infoB Tryz.prog 2 = some (1, 8) := by kernel_rfl
theorem zv_2 : zeroV Tryz.prog 2 = some (.int .i64 0) := by kernel_rfl
theorem zc_2 : zeroCs Tryz.prog 2 = some [(.int .i64 0)] := by kernel_rfl
theorem zl_2 : Lits [(.int .i64 0)] [(.v (.int .i64 0))] := .int _ _ (.nil)
theorem sz_3 : sizeB Tryz.prog 3 = some (false, 1) := by kernel_rfl
theorem zi_3 : infoB Tryz.prog 3 = some (1, 8) := by kernel_rfl
theorem zv_3 : zeroV Tryz.prog 3 = some (.int .i64 0) := by kernel_rfl
theorem zc_3 : zeroCs Tryz.prog 3 = some [(.int .i64 0)] := by kernel_rfl
theorem zl_3 : Lits [(.int .i64 0)] [(.v (.int .i64 0))] := .int _ _ (.nil)
theorem sz_4 : sizeB Tryz.prog 4 = some (false, 1) := by kernel_rfl
theorem zi_4 : infoB Tryz.prog 4 = some (1, 1) := by kernel_rfl
theorem zv_4 : zeroV Tryz.prog 4 = some (.bool false) := by kernel_rfl
theorem zc_4 : zeroCs Tryz.prog 4 = some [(.bool false)] := by kernel_rfl
theorem zl_4 : Lits [(.bool false)] [(.v (.bool false))] := .bool _ (.nil)
theorem sz_5 : sizeB Tryz.prog 5 = some (false, 1) := by kernel_rfl
theorem zi_5 : infoB Tryz.prog 5 = some (1, 1) := by kernel_rfl
theorem by_5 : byteB Tryz.prog 5 = true := by kernel_rfl
theorem zv_5 : zeroV Tryz.prog 5 = some (.int .u8 0) := by kernel_rfl
theorem zc_5 : zeroCs Tryz.prog 5 = some [(.int .u8 0)] := by kernel_rfl
theorem zl_5 : Lits [(.int .u8 0)] [(.v (.int .u8 0))] := .int _ _ (.nil)
theorem sz_6 : sizeB Tryz.prog 6 = some (false, 1) := by kernel_rfl
theorem zi_6 : infoB Tryz.prog 6 = some (1, 1) := by kernel_rfl
theorem by_6 : byteB Tryz.prog 6 = true := by kernel_rfl
theorem zv_6 : zeroV Tryz.prog 6 = some (.int .u8 0) := by kernel_rfl
theorem zc_6 : zeroCs Tryz.prog 6 = some [(.int .u8 0)] := by kernel_rfl
theorem zl_6 : Lits [(.int .u8 0)] [(.v (.int .u8 0))] := .int _ _ (.nil)
theorem sz_7 : sizeB Tryz.prog 7 = some (true, 4) := by kernel_rfl
theorem fo_7_0 : fieldOff Tryz.prog 7 0 = some 0 := by kernel_rfl
theorem fo_7_1 : fieldOff Tryz.prog 7 1 = some 1 := by kernel_rfl
theorem fo_7_2 : fieldOff Tryz.prog 7 2 = some 2 := by kernel_rfl
theorem fo_7_3 : fieldOff Tryz.prog 7 3 = some 3 := by kernel_rfl
theorem pl_7 : placesB Tryz.prog 7 = some [(0, 1), (1, 1), (2, 1), (3, 1)] := by kernel_rfl
theorem zi_7 : infoB Tryz.prog 7 = some (4, 24) := by kernel_rfl
theorem zv_7 : zeroV Tryz.prog 7 = some (.agg #[(.int .i64 0), (.int .i64 0), (.bool false), (.int .u8 0)]) := by kernel_rfl
theorem zc_7 : zeroCs Tryz.prog 7 = some [(.int .i64 0), (.int .i64 0), (.bool false), (.int .u8 0)] := by kernel_rfl
theorem zl_7 : Lits [(.int .i64 0), (.int .i64 0), (.bool false), (.int .u8 0)] [(.v (.int .i64 0)), (.v (.int .i64 0)), (.v (.bool false)), (.v (.int .u8 0))] := .int _ _ (.int _ _ (.bool _ (.int _ _ (.nil))))
theorem sz_8 : sizeB Tryz.prog 8 = some (true, 4) := by kernel_rfl
theorem fo_8_0 : fieldOff Tryz.prog 8 0 = some 0 := by kernel_rfl
theorem fo_8_1 : fieldOff Tryz.prog 8 1 = some 1 := by kernel_rfl
theorem fo_8_2 : fieldOff Tryz.prog 8 2 = some 2 := by kernel_rfl
theorem fo_8_3 : fieldOff Tryz.prog 8 3 = some 3 := by kernel_rfl
theorem pl_8 : placesB Tryz.prog 8 = some [(0, 1), (1, 1), (2, 1), (3, 1)] := by kernel_rfl
theorem zi_8 : infoB Tryz.prog 8 = some (4, 24) := by kernel_rfl
theorem zv_8 : zeroV Tryz.prog 8 = some (.agg #[(.int .i64 0), (.int .i64 0), (.bool false), (.int .u8 0)]) := by kernel_rfl
theorem zc_8 : zeroCs Tryz.prog 8 = some [(.int .i64 0), (.int .i64 0), (.bool false), (.int .u8 0)] := by kernel_rfl
theorem zl_8 : Lits [(.int .i64 0), (.int .i64 0), (.bool false), (.int .u8 0)] [(.v (.int .i64 0)), (.v (.int .i64 0)), (.v (.bool false)), (.v (.int .u8 0))] := .int _ _ (.int _ _ (.bool _ (.int _ _ (.nil))))
theorem sz_9 : sizeB Tryz.prog 9 = some (false, 1) := by kernel_rfl
theorem zi_9 : infoB Tryz.prog 9 = some (1, 16) := by kernel_rfl
theorem zv_9 : zeroV Tryz.prog 9 = some (.string ByteArray.empty) := by kernel_rfl
theorem zc_9 : zeroCs Tryz.prog 9 = some [(.string ByteArray.empty)] := by kernel_rfl
theorem zl_9 : Lits [(.string ByteArray.empty)] [(.v (.str []))] := .str (.nil)
theorem sz_10 : sizeB Tryz.prog 10 = some (false, 1) := by kernel_rfl
theorem zi_10 : infoB Tryz.prog 10 = some (1, 16) := by kernel_rfl
theorem zv_10 : zeroV Tryz.prog 10 = some (.string ByteArray.empty) := by kernel_rfl
theorem zc_10 : zeroCs Tryz.prog 10 = some [(.string ByteArray.empty)] := by kernel_rfl
theorem zl_10 : Lits [(.string ByteArray.empty)] [(.v (.str []))] := .str (.nil)
theorem sz_11 : sizeB Tryz.prog 11 = some (false, 1) := by kernel_rfl
theorem zi_11 : infoB Tryz.prog 11 = some (1, 16) := by kernel_rfl
theorem zv_11 : zeroV Tryz.prog 11 = some (.string ByteArray.empty) := by kernel_rfl
theorem zc_11 : zeroCs Tryz.prog 11 = some [(.string ByteArray.empty)] := by kernel_rfl
theorem zl_11 : Lits [(.string ByteArray.empty)] [(.v (.str []))] := .str (.nil)
theorem sz_12 : sizeB Tryz.prog 12 = some (false, 1) := by kernel_rfl
theorem zi_12 : infoB Tryz.prog 12 = some (1, 8) := by kernel_rfl
theorem zv_12 : zeroV Tryz.prog 12 = some (.int .u64 0) := by kernel_rfl
theorem zc_12 : zeroCs Tryz.prog 12 = some [(.int .u64 0)] := by kernel_rfl
theorem zl_12 : Lits [(.int .u64 0)] [(.v (.int .u64 0))] := .int _ _ (.nil)
theorem sz_13 : sizeB Tryz.prog 13 = some (true, 2) := by kernel_rfl
theorem fo_13_0 : fieldOff Tryz.prog 13 0 = some 0 := by kernel_rfl
theorem fo_13_1 : fieldOff Tryz.prog 13 1 = some 1 := by kernel_rfl
theorem pl_13 : placesB Tryz.prog 13 = some [(0, 1), (1, 1)] := by kernel_rfl
theorem zi_13 : infoB Tryz.prog 13 = some (2, 24) := by kernel_rfl
theorem zv_13 : zeroV Tryz.prog 13 = some (.agg #[(.string ByteArray.empty), (.int .u64 0)]) := by kernel_rfl
theorem zc_13 : zeroCs Tryz.prog 13 = some [(.string ByteArray.empty), (.int .u64 0)] := by kernel_rfl
theorem zl_13 : Lits [(.string ByteArray.empty), (.int .u64 0)] [(.v (.str [])), (.v (.int .u64 0))] := .str (.int _ _ (.nil))
theorem sz_14 : sizeB Tryz.prog 14 = some (true, 2) := by kernel_rfl
theorem fo_14_0 : fieldOff Tryz.prog 14 0 = some 0 := by kernel_rfl
theorem fo_14_1 : fieldOff Tryz.prog 14 1 = some 1 := by kernel_rfl
theorem pl_14 : placesB Tryz.prog 14 = some [(0, 1), (1, 1)] := by kernel_rfl
theorem zi_14 : infoB Tryz.prog 14 = some (2, 24) := by kernel_rfl
theorem zv_14 : zeroV Tryz.prog 14 = some (.agg #[(.string ByteArray.empty), (.int .u64 0)]) := by kernel_rfl
theorem zc_14 : zeroCs Tryz.prog 14 = some [(.string ByteArray.empty), (.int .u64 0)] := by kernel_rfl
theorem zl_14 : Lits [(.string ByteArray.empty), (.int .u64 0)] [(.v (.str [])), (.v (.int .u64 0))] := .str (.int _ _ (.nil))
theorem sz_15 : sizeB Tryz.prog 15 = some (false, 1) := by kernel_rfl
theorem zi_15 : infoB Tryz.prog 15 = some (1, 8) := by kernel_rfl
theorem zv_15 : zeroV Tryz.prog 15 = some (.pointer none) := by kernel_rfl
theorem zc_15 : zeroCs Tryz.prog 15 = some [(.pointer none)] := by kernel_rfl
theorem zl_15 : Lits [(.pointer none)] [(.v (.lit (.pointer none)))] := .lit _ rfl (.nil)
theorem sz_16 : sizeB Tryz.prog 16 = some (false, 1) := by kernel_rfl
theorem zi_16 : infoB Tryz.prog 16 = some (1, 8) := by kernel_rfl
theorem zv_16 : zeroV Tryz.prog 16 = some (.pointer none) := by kernel_rfl
theorem zc_16 : zeroCs Tryz.prog 16 = some [(.pointer none)] := by kernel_rfl
theorem zl_16 : Lits [(.pointer none)] [(.v (.lit (.pointer none)))] := .lit _ rfl (.nil)
theorem sz_17 : sizeB Tryz.prog 17 = some (false, 1) := by kernel_rfl
theorem zi_17 : infoB Tryz.prog 17 = some (1, 8) := by kernel_rfl
theorem zv_17 : zeroV Tryz.prog 17 = some (.pointer none) := by kernel_rfl
theorem zc_17 : zeroCs Tryz.prog 17 = some [(.pointer none)] := by kernel_rfl
theorem zl_17 : Lits [(.pointer none)] [(.v (.lit (.pointer none)))] := .lit _ rfl (.nil)
theorem sz_18 : sizeB Tryz.prog 18 = some (true, 1) := by kernel_rfl
theorem fo_18_0 : fieldOff Tryz.prog 18 0 = some 0 := by kernel_rfl
theorem pl_18 : placesB Tryz.prog 18 = some [(0, 1)] := by kernel_rfl
theorem zi_18 : infoB Tryz.prog 18 = some (1, 8) := by kernel_rfl
theorem zv_18 : zeroV Tryz.prog 18 = some (.agg #[(.pointer none)]) := by kernel_rfl
theorem zc_18 : zeroCs Tryz.prog 18 = some [(.pointer none)] := by kernel_rfl
theorem zl_18 : Lits [(.pointer none)] [(.v (.lit (.pointer none)))] := .lit _ rfl (.nil)
theorem sz_19 : sizeB Tryz.prog 19 = some (true, 1) := by kernel_rfl
theorem fo_19_0 : fieldOff Tryz.prog 19 0 = some 0 := by kernel_rfl
theorem pl_19 : placesB Tryz.prog 19 = some [(0, 1)] := by kernel_rfl
theorem zi_19 : infoB Tryz.prog 19 = some (1, 8) := by kernel_rfl
theorem zv_19 : zeroV Tryz.prog 19 = some (.agg #[(.pointer none)]) := by kernel_rfl
theorem zc_19 : zeroCs Tryz.prog 19 = some [(.pointer none)] := by kernel_rfl
theorem zl_19 : Lits [(.pointer none)] [(.v (.lit (.pointer none)))] := .lit _ rfl (.nil)
theorem sz_20 : sizeB Tryz.prog 20 = some (false, 1) := by kernel_rfl
theorem zi_20 : infoB Tryz.prog 20 = some (1, 16) := by kernel_rfl
theorem zv_20 : zeroV Tryz.prog 20 = some .nilIface := by kernel_rfl
theorem zc_20 : zeroCs Tryz.prog 20 = some [.nilIface] := by kernel_rfl
theorem zl_20 : Lits [.nilIface] [(.v (.lit .nilIface))] := .lit _ rfl (.nil)
theorem sz_21 : sizeB Tryz.prog 21 = some (false, 1) := by kernel_rfl
theorem zi_21 : infoB Tryz.prog 21 = some (1, 4) := by kernel_rfl
theorem zv_21 : zeroV Tryz.prog 21 = some (.int .i32 0) := by kernel_rfl
theorem zc_21 : zeroCs Tryz.prog 21 = some [(.int .i32 0)] := by kernel_rfl
theorem zl_21 : Lits [(.int .i32 0)] [(.v (.int .i32 0))] := .int _ _ (.nil)
theorem sz_22 : sizeB Tryz.prog 22 = some (false, 1) := by kernel_rfl
theorem zi_22 : infoB Tryz.prog 22 = some (1, 24) := by kernel_rfl
theorem zv_22 : zeroV Tryz.prog 22 = some (.slice none 0 0) := by kernel_rfl
theorem zc_22 : zeroCs Tryz.prog 22 = some [(.slice none 0 0)] := by kernel_rfl
theorem zl_22 : Lits [(.slice none 0 0)] [(.v (.lit (.slice none 0 0)))] := .lit _ rfl (.nil)
theorem sz_23 : sizeB Tryz.prog 23 = some (false, 1) := by kernel_rfl
theorem zi_23 : infoB Tryz.prog 23 = some (1, 8) := by kernel_rfl
theorem zv_23 : zeroV Tryz.prog 23 = some .nilFunc := by kernel_rfl
theorem zc_23 : zeroCs Tryz.prog 23 = some [.nilFunc] := by kernel_rfl
theorem zl_23 : Lits [.nilFunc] [(.v (.lit .nilFunc))] := .lit _ rfl (.nil)
theorem sz_24 : sizeB Tryz.prog 24 = some (false, 1) := by kernel_rfl
theorem zi_24 : infoB Tryz.prog 24 = some (1, 24) := by kernel_rfl
theorem zv_24 : zeroV Tryz.prog 24 = some (.slice none 0 0) := by kernel_rfl
theorem zc_24 : zeroCs Tryz.prog 24 = some [(.slice none 0 0)] := by kernel_rfl
theorem zl_24 : Lits [(.slice none 0 0)] [(.v (.lit (.slice none 0 0)))] := .lit _ rfl (.nil)
theorem sz_25 : sizeB Tryz.prog 25 = some (true, 4) := by kernel_rfl
theorem fo_25_0 : fieldOff Tryz.prog 25 0 = some 0 := by kernel_rfl
theorem fo_25_1 : fieldOff Tryz.prog 25 1 = some 1 := by kernel_rfl
theorem fo_25_2 : fieldOff Tryz.prog 25 2 = some 2 := by kernel_rfl
theorem fo_25_3 : fieldOff Tryz.prog 25 3 = some 3 := by kernel_rfl
theorem pl_25 : placesB Tryz.prog 25 = some [(0, 1), (1, 1), (2, 1), (3, 1)] := by kernel_rfl
theorem zi_25 : infoB Tryz.prog 25 = some (4, 72) := by kernel_rfl
theorem zv_25 : zeroV Tryz.prog 25 = some (.agg #[(.string ByteArray.empty), (.string ByteArray.empty), (.slice none 0 0), (.string ByteArray.empty)]) := by kernel_rfl
theorem zc_25 : zeroCs Tryz.prog 25 = some [(.string ByteArray.empty), (.string ByteArray.empty), (.slice none 0 0), (.string ByteArray.empty)] := by kernel_rfl
theorem zl_25 : Lits [(.string ByteArray.empty), (.string ByteArray.empty), (.slice none 0 0), (.string ByteArray.empty)] [(.v (.str [])), (.v (.str [])), (.v (.lit (.slice none 0 0))), (.v (.str []))] := .str (.str (.lit _ rfl (.str (.nil))))
theorem sz_26 : sizeB Tryz.prog 26 = some (true, 4) := by kernel_rfl
theorem fo_26_0 : fieldOff Tryz.prog 26 0 = some 0 := by kernel_rfl
theorem fo_26_1 : fieldOff Tryz.prog 26 1 = some 1 := by kernel_rfl
theorem fo_26_2 : fieldOff Tryz.prog 26 2 = some 2 := by kernel_rfl
theorem fo_26_3 : fieldOff Tryz.prog 26 3 = some 3 := by kernel_rfl
theorem pl_26 : placesB Tryz.prog 26 = some [(0, 1), (1, 1), (2, 1), (3, 1)] := by kernel_rfl
theorem zi_26 : infoB Tryz.prog 26 = some (4, 72) := by kernel_rfl
theorem zv_26 : zeroV Tryz.prog 26 = some (.agg #[(.string ByteArray.empty), (.string ByteArray.empty), (.slice none 0 0), (.string ByteArray.empty)]) := by kernel_rfl
theorem zc_26 : zeroCs Tryz.prog 26 = some [(.string ByteArray.empty), (.string ByteArray.empty), (.slice none 0 0), (.string ByteArray.empty)] := by kernel_rfl
theorem zl_26 : Lits [(.string ByteArray.empty), (.string ByteArray.empty), (.slice none 0 0), (.string ByteArray.empty)] [(.v (.str [])), (.v (.str [])), (.v (.lit (.slice none 0 0))), (.v (.str []))] := .str (.str (.lit _ rfl (.str (.nil))))
theorem sz_27 : sizeB Tryz.prog 27 = some (false, 1) := by kernel_rfl
theorem zi_27 : infoB Tryz.prog 27 = some (1, 8) := by kernel_rfl
theorem zv_27 : zeroV Tryz.prog 27 = some (.int .i64 0) := by kernel_rfl
theorem zc_27 : zeroCs Tryz.prog 27 = some [(.int .i64 0)] := by kernel_rfl
theorem zl_27 : Lits [(.int .i64 0)] [(.v (.int .i64 0))] := .int _ _ (.nil)
theorem sz_28 : sizeB Tryz.prog 28 = some (false, 1) := by kernel_rfl
theorem sz_29 : sizeB Tryz.prog 29 = some (false, 1) := by kernel_rfl
theorem zi_29 : infoB Tryz.prog 29 = some (1, 8) := by kernel_rfl
theorem zv_29 : zeroV Tryz.prog 29 = some .nilFunc := by kernel_rfl
theorem zc_29 : zeroCs Tryz.prog 29 = some [.nilFunc] := by kernel_rfl
theorem zl_29 : Lits [.nilFunc] [(.v (.lit .nilFunc))] := .lit _ rfl (.nil)
theorem sz_30 : sizeB Tryz.prog 30 = some (false, 1) := by kernel_rfl
theorem zi_30 : infoB Tryz.prog 30 = some (1, 8) := by kernel_rfl
theorem zv_30 : zeroV Tryz.prog 30 = some .nilFunc := by kernel_rfl
theorem zc_30 : zeroCs Tryz.prog 30 = some [.nilFunc] := by kernel_rfl
theorem zl_30 : Lits [.nilFunc] [(.v (.lit .nilFunc))] := .lit _ rfl (.nil)
theorem sz_31 : sizeB Tryz.prog 31 = some (false, 1) := by kernel_rfl
theorem zi_31 : infoB Tryz.prog 31 = some (1, 24) := by kernel_rfl
theorem zv_31 : zeroV Tryz.prog 31 = some (.slice none 0 0) := by kernel_rfl
theorem zc_31 : zeroCs Tryz.prog 31 = some [(.slice none 0 0)] := by kernel_rfl
theorem zl_31 : Lits [(.slice none 0 0)] [(.v (.lit (.slice none 0 0)))] := .lit _ rfl (.nil)
theorem sz_32 : sizeB Tryz.prog 32 = some (false, 1) := by kernel_rfl
theorem sz_33 : sizeB Tryz.prog 33 = some (false, 1) := by kernel_rfl
theorem zi_33 : infoB Tryz.prog 33 = some (1, 8) := by kernel_rfl
theorem zv_33 : zeroV Tryz.prog 33 = some .nilFunc := by kernel_rfl
theorem zc_33 : zeroCs Tryz.prog 33 = some [.nilFunc] := by kernel_rfl
theorem zl_33 : Lits [.nilFunc] [(.v (.lit .nilFunc))] := .lit _ rfl (.nil)
theorem sz_34 : sizeB Tryz.prog 34 = some (false, 1) := by kernel_rfl
theorem zi_34 : infoB Tryz.prog 34 = some (1, 8) := by kernel_rfl
theorem zv_34 : zeroV Tryz.prog 34 = some .nilFunc := by kernel_rfl
theorem zc_34 : zeroCs Tryz.prog 34 = some [.nilFunc] := by kernel_rfl
theorem zl_34 : Lits [.nilFunc] [(.v (.lit .nilFunc))] := .lit _ rfl (.nil)
theorem sz_35 : sizeB Tryz.prog 35 = some (false, 1) := by kernel_rfl
theorem zi_35 : infoB Tryz.prog 35 = some (1, 8) := by kernel_rfl
theorem zv_35 : zeroV Tryz.prog 35 = some .nilFunc := by kernel_rfl
theorem zc_35 : zeroCs Tryz.prog 35 = some [.nilFunc] := by kernel_rfl
theorem zl_35 : Lits [.nilFunc] [(.v (.lit .nilFunc))] := .lit _ rfl (.nil)
theorem sz_36 : sizeB Tryz.prog 36 = some (false, 1) := by kernel_rfl
theorem zi_36 : infoB Tryz.prog 36 = some (1, 8) := by kernel_rfl
theorem zv_36 : zeroV Tryz.prog 36 = some .nilFunc := by kernel_rfl
theorem zc_36 : zeroCs Tryz.prog 36 = some [.nilFunc] := by kernel_rfl
theorem zl_36 : Lits [.nilFunc] [(.v (.lit .nilFunc))] := .lit _ rfl (.nil)
theorem sz_37 : sizeB Tryz.prog 37 = some (false, 1) := by kernel_rfl
theorem zi_37 : infoB Tryz.prog 37 = some (1, 8) := by kernel_rfl
theorem zv_37 : zeroV Tryz.prog 37 = some .nilFunc := by kernel_rfl
theorem zc_37 : zeroCs Tryz.prog 37 = some [.nilFunc] := by kernel_rfl
theorem zl_37 : Lits [.nilFunc] [(.v (.lit .nilFunc))] := .lit _ rfl (.nil)
theorem sz_38 : sizeB Tryz.prog 38 = some (true, 5) := by kernel_rfl
theorem fo_38_0 : fieldOff Tryz.prog 38 0 = some 0 := by kernel_rfl
theorem fo_38_1 : fieldOff Tryz.prog 38 1 = some 1 := by kernel_rfl
theorem fo_38_2 : fieldOff Tryz.prog 38 2 = some 2 := by kernel_rfl
theorem fo_38_3 : fieldOff Tryz.prog 38 3 = some 3 := by kernel_rfl
theorem fo_38_4 : fieldOff Tryz.prog 38 4 = some 4 := by kernel_rfl
theorem pl_38 : placesB Tryz.prog 38 = some [(0, 1), (1, 1), (2, 1), (3, 1), (4, 1)] := by kernel_rfl
theorem zi_38 : infoB Tryz.prog 38 = some (5, 88) := by kernel_rfl
theorem zv_38 : zeroV Tryz.prog 38 = some (.agg #[(.string ByteArray.empty), (.string ByteArray.empty), (.string ByteArray.empty), (.string ByteArray.empty), (.slice none 0 0)]) := by kernel_rfl
theorem zc_38 : zeroCs Tryz.prog 38 = some [(.string ByteArray.empty), (.string ByteArray.empty), (.string ByteArray.empty), (.string ByteArray.empty), (.slice none 0 0)] := by kernel_rfl
theorem zl_38 : Lits [(.string ByteArray.empty), (.string ByteArray.empty), (.string ByteArray.empty), (.string ByteArray.empty), (.slice none 0 0)] [(.v (.str [])), (.v (.str [])), (.v (.str [])), (.v (.str [])), (.v (.lit (.slice none 0 0)))] := .str (.str (.str (.str (.lit _ rfl (.nil)))))
theorem sz_39 : sizeB Tryz.prog 39 = some (true, 5) := by kernel_rfl
theorem fo_39_0 : fieldOff Tryz.prog 39 0 = some 0 := by kernel_rfl
theorem fo_39_1 : fieldOff Tryz.prog 39 1 = some 1 := by kernel_rfl
theorem fo_39_2 : fieldOff Tryz.prog 39 2 = some 2 := by kernel_rfl
theorem fo_39_3 : fieldOff Tryz.prog 39 3 = some 3 := by kernel_rfl
theorem fo_39_4 : fieldOff Tryz.prog 39 4 = some 4 := by kernel_rfl
theorem pl_39 : placesB Tryz.prog 39 = some [(0, 1), (1, 1), (2, 1), (3, 1), (4, 1)] := by kernel_rfl
theorem zi_39 : infoB Tryz.prog 39 = some (5, 88) := by kernel_rfl
theorem zv_39 : zeroV Tryz.prog 39 = some (.agg #[(.string ByteArray.empty), (.string ByteArray.empty), (.string ByteArray.empty), (.string ByteArray.empty), (.slice none 0 0)]) := by kernel_rfl
theorem zc_39 : zeroCs Tryz.prog 39 = some [(.string ByteArray.empty), (.string ByteArray.empty), (.string ByteArray.empty), (.string ByteArray.empty), (.slice none 0 0)] := by kernel_rfl
theorem zl_39 : Lits [(.string ByteArray.empty), (.string ByteArray.empty), (.string ByteArray.empty), (.string ByteArray.empty), (.slice none 0 0)] [(.v (.str [])), (.v (.str [])), (.v (.str [])), (.v (.str [])), (.v (.lit (.slice none 0 0)))] := .str (.str (.str (.str (.lit _ rfl (.nil)))))
theorem sz_40 : sizeB Tryz.prog 40 = some (false, 1) := by kernel_rfl
theorem sz_41 : sizeB Tryz.prog 41 = some (false, 1) := by kernel_rfl
theorem zi_41 : infoB Tryz.prog 41 = some (1, 8) := by kernel_rfl
theorem zv_41 : zeroV Tryz.prog 41 = some .nilFunc := by kernel_rfl
theorem zc_41 : zeroCs Tryz.prog 41 = some [.nilFunc] := by kernel_rfl
theorem zl_41 : Lits [.nilFunc] [(.v (.lit .nilFunc))] := .lit _ rfl (.nil)
theorem sz_42 : sizeB Tryz.prog 42 = some (false, 1) := by kernel_rfl
theorem sz_43 : sizeB Tryz.prog 43 = some (false, 1) := by kernel_rfl
theorem zi_43 : infoB Tryz.prog 43 = some (1, 8) := by kernel_rfl
theorem zv_43 : zeroV Tryz.prog 43 = some .nilFunc := by kernel_rfl
theorem zc_43 : zeroCs Tryz.prog 43 = some [.nilFunc] := by kernel_rfl
theorem zl_43 : Lits [.nilFunc] [(.v (.lit .nilFunc))] := .lit _ rfl (.nil)
theorem sz_44 : sizeB Tryz.prog 44 = some (false, 1) := by kernel_rfl
theorem zi_44 : infoB Tryz.prog 44 = some (1, 8) := by kernel_rfl
theorem zv_44 : zeroV Tryz.prog 44 = some .nilFunc := by kernel_rfl
theorem zc_44 : zeroCs Tryz.prog 44 = some [.nilFunc] := by kernel_rfl
theorem zl_44 : Lits [.nilFunc] [(.v (.lit .nilFunc))] := .lit _ rfl (.nil)
theorem sz_45 : sizeB Tryz.prog 45 = some (true, 3) := by kernel_rfl
theorem fo_45_0 : fieldOff Tryz.prog 45 0 = some 0 := by kernel_rfl
theorem fo_45_1 : fieldOff Tryz.prog 45 1 = some 1 := by kernel_rfl
theorem fo_45_2 : fieldOff Tryz.prog 45 2 = some 2 := by kernel_rfl
theorem pl_45 : placesB Tryz.prog 45 = some [(0, 1), (1, 1), (2, 1)] := by kernel_rfl
theorem zi_45 : infoB Tryz.prog 45 = some (3, 40) := by kernel_rfl
theorem zv_45 : zeroV Tryz.prog 45 = some (.agg #[(.string ByteArray.empty), (.string ByteArray.empty), (.bool false)]) := by kernel_rfl
theorem zc_45 : zeroCs Tryz.prog 45 = some [(.string ByteArray.empty), (.string ByteArray.empty), (.bool false)] := by kernel_rfl
theorem zl_45 : Lits [(.string ByteArray.empty), (.string ByteArray.empty), (.bool false)] [(.v (.str [])), (.v (.str [])), (.v (.bool false))] := .str (.str (.bool _ (.nil)))
theorem sz_46 : sizeB Tryz.prog 46 = some (true, 3) := by kernel_rfl
theorem fo_46_0 : fieldOff Tryz.prog 46 0 = some 0 := by kernel_rfl
theorem fo_46_1 : fieldOff Tryz.prog 46 1 = some 1 := by kernel_rfl
theorem fo_46_2 : fieldOff Tryz.prog 46 2 = some 2 := by kernel_rfl
theorem pl_46 : placesB Tryz.prog 46 = some [(0, 1), (1, 1), (2, 1)] := by kernel_rfl
theorem zi_46 : infoB Tryz.prog 46 = some (3, 40) := by kernel_rfl
theorem zv_46 : zeroV Tryz.prog 46 = some (.agg #[(.string ByteArray.empty), (.string ByteArray.empty), (.bool false)]) := by kernel_rfl
theorem zc_46 : zeroCs Tryz.prog 46 = some [(.string ByteArray.empty), (.string ByteArray.empty), (.bool false)] := by kernel_rfl
theorem zl_46 : Lits [(.string ByteArray.empty), (.string ByteArray.empty), (.bool false)] [(.v (.str [])), (.v (.str [])), (.v (.bool false))] := .str (.str (.bool _ (.nil)))
theorem sz_47 : sizeB Tryz.prog 47 = some (false, 1) := by kernel_rfl
theorem zi_47 : infoB Tryz.prog 47 = some (1, 8) := by kernel_rfl
theorem zv_47 : zeroV Tryz.prog 47 = some .nilFunc := by kernel_rfl
theorem zc_47 : zeroCs Tryz.prog 47 = some [.nilFunc] := by kernel_rfl
theorem zl_47 : Lits [.nilFunc] [(.v (.lit .nilFunc))] := .lit _ rfl (.nil)
theorem sz_48 : sizeB Tryz.prog 48 = some (true, 1) := by kernel_rfl
theorem fo_48_0 : fieldOff Tryz.prog 48 0 = some 0 := by kernel_rfl
theorem pl_48 : placesB Tryz.prog 48 = some [(0, 1)] := by kernel_rfl
theorem zi_48 : infoB Tryz.prog 48 = some (1, 8) := by kernel_rfl
theorem zv_48 : zeroV Tryz.prog 48 = some (.agg #[(.int .i64 0)]) := by kernel_rfl
theorem zc_48 : zeroCs Tryz.prog 48 = some [(.int .i64 0)] := by kernel_rfl
theorem zl_48 : Lits [(.int .i64 0)] [(.v (.int .i64 0))] := .int _ _ (.nil)
theorem sz_49 : sizeB Tryz.prog 49 = some (true, 1) := by kernel_rfl
theorem fo_49_0 : fieldOff Tryz.prog 49 0 = some 0 := by kernel_rfl
theorem pl_49 : placesB Tryz.prog 49 = some [(0, 1)] := by kernel_rfl
theorem zi_49 : infoB Tryz.prog 49 = some (1, 8) := by kernel_rfl
theorem zv_49 : zeroV Tryz.prog 49 = some (.agg #[(.int .i64 0)]) := by kernel_rfl
theorem zc_49 : zeroCs Tryz.prog 49 = some [(.int .i64 0)] := by kernel_rfl
theorem zl_49 : Lits [(.int .i64 0)] [(.v (.int .i64 0))] := .int _ _ (.nil)
theorem sz_50 : sizeB Tryz.prog 50 = some (false, 1) := by kernel_rfl
theorem sz_51 : sizeB Tryz.prog 51 = some (false, 1) := by kernel_rfl
theorem zi_51 : infoB Tryz.prog 51 = some (1, 8) := by kernel_rfl
theorem zv_51 : zeroV Tryz.prog 51 = some (.pointer none) := by kernel_rfl
theorem zc_51 : zeroCs Tryz.prog 51 = some [(.pointer none)] := by kernel_rfl
theorem zl_51 : Lits [(.pointer none)] [(.v (.lit (.pointer none)))] := .lit _ rfl (.nil)
theorem sz_52 : sizeB Tryz.prog 52 = some (true, 2) := by kernel_rfl
theorem fo_52_0 : fieldOff Tryz.prog 52 0 = some 0 := by kernel_rfl
theorem fo_52_1 : fieldOff Tryz.prog 52 1 = some 1 := by kernel_rfl
theorem pl_52 : placesB Tryz.prog 52 = some [(0, 1), (1, 1)] := by kernel_rfl
theorem zi_52 : infoB Tryz.prog 52 = some (2, 32) := by kernel_rfl
theorem zv_52 : zeroV Tryz.prog 52 = some (.agg #[(.slice none 0 0), (.int .i64 0)]) := by kernel_rfl
theorem zc_52 : zeroCs Tryz.prog 52 = some [(.slice none 0 0), (.int .i64 0)] := by kernel_rfl
theorem zl_52 : Lits [(.slice none 0 0), (.int .i64 0)] [(.v (.lit (.slice none 0 0))), (.v (.int .i64 0))] := .lit _ rfl (.int _ _ (.nil))
theorem sz_53 : sizeB Tryz.prog 53 = some (true, 2) := by kernel_rfl
theorem fo_53_0 : fieldOff Tryz.prog 53 0 = some 0 := by kernel_rfl
theorem fo_53_1 : fieldOff Tryz.prog 53 1 = some 1 := by kernel_rfl
theorem pl_53 : placesB Tryz.prog 53 = some [(0, 1), (1, 1)] := by kernel_rfl
theorem zi_53 : infoB Tryz.prog 53 = some (2, 32) := by kernel_rfl
theorem zv_53 : zeroV Tryz.prog 53 = some (.agg #[(.slice none 0 0), (.int .i64 0)]) := by kernel_rfl
theorem zc_53 : zeroCs Tryz.prog 53 = some [(.slice none 0 0), (.int .i64 0)] := by kernel_rfl
theorem zl_53 : Lits [(.slice none 0 0), (.int .i64 0)] [(.v (.lit (.slice none 0 0))), (.v (.int .i64 0))] := .lit _ rfl (.int _ _ (.nil))
theorem sz_54 : sizeB Tryz.prog 54 = some (false, 1) := by kernel_rfl
theorem zi_54 : infoB Tryz.prog 54 = some (1, 8) := by kernel_rfl
theorem zv_54 : zeroV Tryz.prog 54 = some .nilFunc := by kernel_rfl
theorem zc_54 : zeroCs Tryz.prog 54 = some [.nilFunc] := by kernel_rfl
theorem zl_54 : Lits [.nilFunc] [(.v (.lit .nilFunc))] := .lit _ rfl (.nil)
theorem sz_55 : sizeB Tryz.prog 55 = some (false, 1) := by kernel_rfl
theorem zi_55 : infoB Tryz.prog 55 = some (1, 8) := by kernel_rfl
theorem zv_55 : zeroV Tryz.prog 55 = some .nilFunc := by kernel_rfl
theorem zc_55 : zeroCs Tryz.prog 55 = some [.nilFunc] := by kernel_rfl
theorem zl_55 : Lits [.nilFunc] [(.v (.lit .nilFunc))] := .lit _ rfl (.nil)
theorem sz_56 : sizeB Tryz.prog 56 = some (false, 1) := by kernel_rfl
theorem zi_56 : infoB Tryz.prog 56 = some (1, 8) := by kernel_rfl
theorem zv_56 : zeroV Tryz.prog 56 = some .nilFunc := by kernel_rfl
theorem zc_56 : zeroCs Tryz.prog 56 = some [.nilFunc] := by kernel_rfl
theorem zl_56 : Lits [.nilFunc] [(.v (.lit .nilFunc))] := .lit _ rfl (.nil)
theorem sz_57 : sizeB Tryz.prog 57 = some (false, 1) := by kernel_rfl
theorem zi_57 : infoB Tryz.prog 57 = some (1, 8) := by kernel_rfl
theorem zv_57 : zeroV Tryz.prog 57 = some .nilFunc := by kernel_rfl
theorem zc_57 : zeroCs Tryz.prog 57 = some [.nilFunc] := by kernel_rfl
theorem zl_57 : Lits [.nilFunc] [(.v (.lit .nilFunc))] := .lit _ rfl (.nil)
theorem sz_58 : sizeB Tryz.prog 58 = some (false, 1) := by kernel_rfl
theorem zi_58 : infoB Tryz.prog 58 = some (1, 8) := by kernel_rfl
theorem zv_58 : zeroV Tryz.prog 58 = some .nilFunc := by kernel_rfl
theorem zc_58 : zeroCs Tryz.prog 58 = some [.nilFunc] := by kernel_rfl
theorem zl_58 : Lits [.nilFunc] [(.v (.lit .nilFunc))] := .lit _ rfl (.nil)
theorem sz_59 : sizeB Tryz.prog 59 = some (false, 1) := by kernel_rfl
theorem sz_60 : sizeB Tryz.prog 60 = some (false, 1) := by kernel_rfl
theorem zi_60 : infoB Tryz.prog 60 = some (1, 8) := by kernel_rfl
theorem zv_60 : zeroV Tryz.prog 60 = some .nilFunc := by kernel_rfl
theorem zc_60 : zeroCs Tryz.prog 60 = some [.nilFunc] := by kernel_rfl
theorem zl_60 : Lits [.nilFunc] [(.v (.lit .nilFunc))] := .lit _ rfl (.nil)
theorem sz_61 : sizeB Tryz.prog 61 = some (false, 1) := by kernel_rfl
theorem sz_62 : sizeB Tryz.prog 62 = some (false, 1) := by kernel_rfl
theorem zi_62 : infoB Tryz.prog 62 = some (1, 8) := by kernel_rfl
theorem zv_62 : zeroV Tryz.prog 62 = some .nilFunc := by kernel_rfl
theorem zc_62 : zeroCs Tryz.prog 62 = some [.nilFunc] := by kernel_rfl
theorem zl_62 : Lits [.nilFunc] [(.v (.lit .nilFunc))] := .lit _ rfl (.nil)
theorem sz_63 : sizeB Tryz.prog 63 = some (false, 1) := by kernel_rfl
theorem sz_64 : sizeB Tryz.prog 64 = some (false, 1) := by kernel_rfl
theorem zi_64 : infoB Tryz.prog 64 = some (1, 8) := by kernel_rfl
theorem zv_64 : zeroV Tryz.prog 64 = some .nilFunc := by kernel_rfl
theorem zc_64 : zeroCs Tryz.prog 64 = some [.nilFunc] := by kernel_rfl
theorem zl_64 : Lits [.nilFunc] [(.v (.lit .nilFunc))] := .lit _ rfl (.nil)
theorem sz_65 : sizeB Tryz.prog 65 = some (false, 1) := by kernel_rfl
theorem sz_66 : sizeB Tryz.prog 66 = some (false, 1) := by kernel_rfl
theorem zi_66 : infoB Tryz.prog 66 = some (1, 8) := by kernel_rfl
theorem zv_66 : zeroV Tryz.prog 66 = some .nilFunc := by kernel_rfl
theorem zc_66 : zeroCs Tryz.prog 66 = some [.nilFunc] := by kernel_rfl
theorem zl_66 : Lits [.nilFunc] [(.v (.lit .nilFunc))] := .lit _ rfl (.nil)
theorem sz_67 : sizeB Tryz.prog 67 = some (false, 1) := by kernel_rfl
theorem zi_67 : infoB Tryz.prog 67 = some (1, 8) := by kernel_rfl
theorem zv_67 : zeroV Tryz.prog 67 = some .nilFunc := by kernel_rfl
theorem zc_67 : zeroCs Tryz.prog 67 = some [.nilFunc] := by kernel_rfl
theorem zl_67 : Lits [.nilFunc] [(.v (.lit .nilFunc))] := .lit _ rfl (.nil)
theorem sz_68 : sizeB Tryz.prog 68 = some (false, 1) := by kernel_rfl
theorem zi_68 : infoB Tryz.prog 68 = some (1, 24) := by kernel_rfl
theorem zv_68 : zeroV Tryz.prog 68 = some (.slice none 0 0) := by kernel_rfl
theorem zc_68 : zeroCs Tryz.prog 68 = some [(.slice none 0 0)] := by kernel_rfl
theorem zl_68 : Lits [(.slice none 0 0)] [(.v (.lit (.slice none 0 0)))] := .lit _ rfl (.nil)
theorem sz_69 : sizeB Tryz.prog 69 = some (false, 1) := by kernel_rfl
theorem zi_69 : infoB Tryz.prog 69 = some (1, 8) := by kernel_rfl
theorem zv_69 : zeroV Tryz.prog 69 = some .nilFunc := by kernel_rfl
theorem zc_69 : zeroCs Tryz.prog 69 = some [.nilFunc] := by kernel_rfl
theorem zl_69 : Lits [.nilFunc] [(.v (.lit .nilFunc))] := .lit _ rfl (.nil)
theorem sz_70 : sizeB Tryz.prog 70 = some (false, 1) := by kernel_rfl
theorem zi_70 : infoB Tryz.prog 70 = some (1, 8) := by kernel_rfl
theorem zv_70 : zeroV Tryz.prog 70 = some .nilFunc := by kernel_rfl
theorem zc_70 : zeroCs Tryz.prog 70 = some [.nilFunc] := by kernel_rfl
theorem zl_70 : Lits [.nilFunc] [(.v (.lit .nilFunc))] := .lit _ rfl (.nil)
theorem sz_71 : sizeB Tryz.prog 71 = some (false, 1) := by kernel_rfl
theorem zi_71 : infoB Tryz.prog 71 = some (1, 8) := by kernel_rfl
theorem zv_71 : zeroV Tryz.prog 71 = some .nilFunc := by kernel_rfl
theorem zc_71 : zeroCs Tryz.prog 71 = some [.nilFunc] := by kernel_rfl
theorem zl_71 : Lits [.nilFunc] [(.v (.lit .nilFunc))] := .lit _ rfl (.nil)
theorem sz_72 : sizeB Tryz.prog 72 = some (false, 1) := by kernel_rfl
theorem zi_72 : infoB Tryz.prog 72 = some (1, 8) := by kernel_rfl
theorem zv_72 : zeroV Tryz.prog 72 = some .nilFunc := by kernel_rfl
theorem zc_72 : zeroCs Tryz.prog 72 = some [.nilFunc] := by kernel_rfl
theorem zl_72 : Lits [.nilFunc] [(.v (.lit .nilFunc))] := .lit _ rfl (.nil)
theorem sz_73 : sizeB Tryz.prog 73 = some (false, 1) := by kernel_rfl
theorem zi_73 : infoB Tryz.prog 73 = some (1, 8) := by kernel_rfl
theorem zv_73 : zeroV Tryz.prog 73 = some .nilFunc := by kernel_rfl
theorem zc_73 : zeroCs Tryz.prog 73 = some [.nilFunc] := by kernel_rfl
theorem zl_73 : Lits [.nilFunc] [(.v (.lit .nilFunc))] := .lit _ rfl (.nil)
theorem sz_74 : sizeB Tryz.prog 74 = some (false, 1) := by kernel_rfl
theorem zi_74 : infoB Tryz.prog 74 = some (1, 8) := by kernel_rfl
theorem zv_74 : zeroV Tryz.prog 74 = some .nilFunc := by kernel_rfl
theorem zc_74 : zeroCs Tryz.prog 74 = some [.nilFunc] := by kernel_rfl
theorem zl_74 : Lits [.nilFunc] [(.v (.lit .nilFunc))] := .lit _ rfl (.nil)
theorem sz_75 : sizeB Tryz.prog 75 = some (false, 1) := by kernel_rfl
theorem zi_75 : infoB Tryz.prog 75 = some (1, 8) := by kernel_rfl
theorem zv_75 : zeroV Tryz.prog 75 = some .nilFunc := by kernel_rfl
theorem zc_75 : zeroCs Tryz.prog 75 = some [.nilFunc] := by kernel_rfl
theorem zl_75 : Lits [.nilFunc] [(.v (.lit .nilFunc))] := .lit _ rfl (.nil)
theorem sz_76 : sizeB Tryz.prog 76 = some (false, 1) := by kernel_rfl
theorem zi_76 : infoB Tryz.prog 76 = some (1, 8) := by kernel_rfl
theorem zv_76 : zeroV Tryz.prog 76 = some .nilFunc := by kernel_rfl
theorem zc_76 : zeroCs Tryz.prog 76 = some [.nilFunc] := by kernel_rfl
theorem zl_76 : Lits [.nilFunc] [(.v (.lit .nilFunc))] := .lit _ rfl (.nil)
theorem sz_77 : sizeB Tryz.prog 77 = some (false, 1) := by kernel_rfl
theorem zi_77 : infoB Tryz.prog 77 = some (1, 1) := by kernel_rfl
theorem zv_77 : zeroV Tryz.prog 77 = some (.int .i8 0) := by kernel_rfl
theorem zc_77 : zeroCs Tryz.prog 77 = some [(.int .i8 0)] := by kernel_rfl
theorem zl_77 : Lits [(.int .i8 0)] [(.v (.int .i8 0))] := .int _ _ (.nil)
theorem sz_78 : sizeB Tryz.prog 78 = some (false, 1) := by kernel_rfl
theorem zi_78 : infoB Tryz.prog 78 = some (1, 1) := by kernel_rfl
theorem zv_78 : zeroV Tryz.prog 78 = some (.int .i8 0) := by kernel_rfl
theorem zc_78 : zeroCs Tryz.prog 78 = some [(.int .i8 0)] := by kernel_rfl
theorem zl_78 : Lits [(.int .i8 0)] [(.v (.int .i8 0))] := .int _ _ (.nil)
theorem sz_79 : sizeB Tryz.prog 79 = some (true, 3) := by kernel_rfl
theorem fo_79_0 : fieldOff Tryz.prog 79 0 = some 0 := by kernel_rfl
theorem fo_79_1 : fieldOff Tryz.prog 79 1 = some 1 := by kernel_rfl
theorem fo_79_2 : fieldOff Tryz.prog 79 2 = some 2 := by kernel_rfl
theorem pl_79 : placesB Tryz.prog 79 = some [(0, 1), (1, 1), (2, 1)] := by kernel_rfl
theorem zi_79 : infoB Tryz.prog 79 = some (3, 40) := by kernel_rfl
theorem zv_79 : zeroV Tryz.prog 79 = some (.agg #[(.slice none 0 0), (.int .i64 0), (.int .i8 0)]) := by kernel_rfl
theorem zc_79 : zeroCs Tryz.prog 79 = some [(.slice none 0 0), (.int .i64 0), (.int .i8 0)] := by kernel_rfl
theorem zl_79 : Lits [(.slice none 0 0), (.int .i64 0), (.int .i8 0)] [(.v (.lit (.slice none 0 0))), (.v (.int .i64 0)), (.v (.int .i8 0))] := .lit _ rfl (.int _ _ (.int _ _ (.nil)))
theorem sz_80 : sizeB Tryz.prog 80 = some (true, 3) := by kernel_rfl
theorem fo_80_0 : fieldOff Tryz.prog 80 0 = some 0 := by kernel_rfl
theorem fo_80_1 : fieldOff Tryz.prog 80 1 = some 1 := by kernel_rfl
theorem fo_80_2 : fieldOff Tryz.prog 80 2 = some 2 := by kernel_rfl
theorem pl_80 : placesB Tryz.prog 80 = some [(0, 1), (1, 1), (2, 1)] := by kernel_rfl
theorem zi_80 : infoB Tryz.prog 80 = some (3, 40) := by kernel_rfl
theorem zv_80 : zeroV Tryz.prog 80 = some (.agg #[(.slice none 0 0), (.int .i64 0), (.int .i8 0)]) := by kernel_rfl
theorem zc_80 : zeroCs Tryz.prog 80 = some [(.slice none 0 0), (.int .i64 0), (.int .i8 0)] := by kernel_rfl
theorem zl_80 : Lits [(.slice none 0 0), (.int .i64 0), (.int .i8 0)] [(.v (.lit (.slice none 0 0))), (.v (.int .i64 0)), (.v (.int .i8 0))] := .lit _ rfl (.int _ _ (.int _ _ (.nil)))
theorem sz_81 : sizeB Tryz.prog 81 = some (false, 1) := by kernel_rfl
theorem zi_81 : infoB Tryz.prog 81 = some (1, 16) := by kernel_rfl
theorem zv_81 : zeroV Tryz.prog 81 = some .nilIface := by kernel_rfl
theorem zc_81 : zeroCs Tryz.prog 81 = some [.nilIface] := by kernel_rfl
theorem zl_81 : Lits [.nilIface] [(.v (.lit .nilIface))] := .lit _ rfl (.nil)
theorem sz_82 : sizeB Tryz.prog 82 = some (false, 1) := by kernel_rfl
theorem zi_82 : infoB Tryz.prog 82 = some (1, 16) := by kernel_rfl
theorem zv_82 : zeroV Tryz.prog 82 = some .nilIface := by kernel_rfl
theorem zc_82 : zeroCs Tryz.prog 82 = some [.nilIface] := by kernel_rfl
theorem zl_82 : Lits [.nilIface] [(.v (.lit .nilIface))] := .lit _ rfl (.nil)
theorem sz_83 : sizeB Tryz.prog 83 = some (false, 1) := by kernel_rfl
theorem sz_84 : sizeB Tryz.prog 84 = some (false, 1) := by kernel_rfl
theorem zi_84 : infoB Tryz.prog 84 = some (1, 8) := by kernel_rfl
theorem zv_84 : zeroV Tryz.prog 84 = some .nilFunc := by kernel_rfl
theorem zc_84 : zeroCs Tryz.prog 84 = some [.nilFunc] := by kernel_rfl
theorem zl_84 : Lits [.nilFunc] [(.v (.lit .nilFunc))] := .lit _ rfl (.nil)
theorem sz_85 : sizeB Tryz.prog 85 = some (false, 1) := by kernel_rfl
theorem zi_85 : infoB Tryz.prog 85 = some (1, 8) := by kernel_rfl
theorem zv_85 : zeroV Tryz.prog 85 = some .nilFunc := by kernel_rfl
theorem zc_85 : zeroCs Tryz.prog 85 = some [.nilFunc] := by kernel_rfl
theorem zl_85 : Lits [.nilFunc] [(.v (.lit .nilFunc))] := .lit _ rfl (.nil)
theorem sz_86 : sizeB Tryz.prog 86 = some (false, 1) := by kernel_rfl
theorem zi_86 : infoB Tryz.prog 86 = some (1, 8) := by kernel_rfl
theorem zv_86 : zeroV Tryz.prog 86 = some .nilFunc := by kernel_rfl
theorem zc_86 : zeroCs Tryz.prog 86 = some [.nilFunc] := by kernel_rfl
theorem zl_86 : Lits [.nilFunc] [(.v (.lit .nilFunc))] := .lit _ rfl (.nil)
theorem sz_87 : sizeB Tryz.prog 87 = some (false, 1) := by kernel_rfl
theorem zi_87 : infoB Tryz.prog 87 = some (1, 8) := by kernel_rfl
theorem zv_87 : zeroV Tryz.prog 87 = some .nilFunc := by kernel_rfl
theorem zc_87 : zeroCs Tryz.prog 87 = some [.nilFunc] := by kernel_rfl
theorem zl_87 : Lits [.nilFunc] [(.v (.lit .nilFunc))] := .lit _ rfl (.nil)
theorem sz_88 : sizeB Tryz.prog 88 = some (false, 1) := by kernel_rfl
theorem zi_88 : infoB Tryz.prog 88 = some (1, 8) := by kernel_rfl
theorem zv_88 : zeroV Tryz.prog 88 = some .nilFunc := by kernel_rfl
theorem zc_88 : zeroCs Tryz.prog 88 = some [.nilFunc] := by kernel_rfl
theorem zl_88 : Lits [.nilFunc] [(.v (.lit .nilFunc))] := .lit _ rfl (.nil)
theorem sz_89 : sizeB Tryz.prog 89 = some (false, 1) := by kernel_rfl
theorem zi_89 : infoB Tryz.prog 89 = some (1, 8) := by kernel_rfl
theorem zv_89 : zeroV Tryz.prog 89 = some .nilFunc := by kernel_rfl
theorem zc_89 : zeroCs Tryz.prog 89 = some [.nilFunc] := by kernel_rfl
theorem zl_89 : Lits [.nilFunc] [(.v (.lit .nilFunc))] := .lit _ rfl (.nil)
theorem sz_90 : sizeB Tryz.prog 90 = some (false, 1) := by kernel_rfl
theorem zi_90 : infoB Tryz.prog 90 = some (1, 8) := by kernel_rfl
theorem zv_90 : zeroV Tryz.prog 90 = some .nilFunc := by kernel_rfl
theorem zc_90 : zeroCs Tryz.prog 90 = some [.nilFunc] := by kernel_rfl
theorem zl_90 : Lits [.nilFunc] [(.v (.lit .nilFunc))] := .lit _ rfl (.nil)
theorem sz_91 : sizeB Tryz.prog 91 = some (false, 1) := by kernel_rfl
theorem zi_91 : infoB Tryz.prog 91 = some (1, 8) := by kernel_rfl
theorem zv_91 : zeroV Tryz.prog 91 = some .nilFunc := by kernel_rfl
theorem zc_91 : zeroCs Tryz.prog 91 = some [.nilFunc] := by kernel_rfl
theorem zl_91 : Lits [.nilFunc] [(.v (.lit .nilFunc))] := .lit _ rfl (.nil)
theorem sz_92 : sizeB Tryz.prog 92 = some (false, 1) := by kernel_rfl
theorem zi_92 : infoB Tryz.prog 92 = some (1, 8) := by kernel_rfl
theorem zv_92 : zeroV Tryz.prog 92 = some .nilFunc := by kernel_rfl
theorem zc_92 : zeroCs Tryz.prog 92 = some [.nilFunc] := by kernel_rfl
theorem zl_92 : Lits [.nilFunc] [(.v (.lit .nilFunc))] := .lit _ rfl (.nil)
theorem sz_93 : sizeB Tryz.prog 93 = some (false, 1) := by kernel_rfl
theorem zi_93 : infoB Tryz.prog 93 = some (1, 8) := by kernel_rfl
theorem zv_93 : zeroV Tryz.prog 93 = some .nilFunc := by kernel_rfl
theorem zc_93 : zeroCs Tryz.prog 93 = some [.nilFunc] := by kernel_rfl
theorem zl_93 : Lits [.nilFunc] [(.v (.lit .nilFunc))] := .lit _ rfl (.nil)
theorem sz_94 : sizeB Tryz.prog 94 = some (false, 1) := by kernel_rfl
theorem sz_95 : sizeB Tryz.prog 95 = some (false, 1) := by kernel_rfl
theorem zi_95 : infoB Tryz.prog 95 = some (1, 8) := by kernel_rfl
theorem zv_95 : zeroV Tryz.prog 95 = some .nilFunc := by kernel_rfl
theorem zc_95 : zeroCs Tryz.prog 95 = some [.nilFunc] := by kernel_rfl
theorem zl_95 : Lits [.nilFunc] [(.v (.lit .nilFunc))] := .lit _ rfl (.nil)
theorem sz_96 : sizeB Tryz.prog 96 = some (false, 1) := by kernel_rfl
theorem zi_96 : infoB Tryz.prog 96 = some (1, 8) := by kernel_rfl
theorem zv_96 : zeroV Tryz.prog 96 = some (.map none) := by kernel_rfl
theorem zc_96 : zeroCs Tryz.prog 96 = some [(.map none)] := by kernel_rfl
theorem zl_96 : Lits [(.map none)] [(.v (.lit (.map none)))] := .lit _ rfl (.nil)
theorem sz_97 : sizeB Tryz.prog 97 = some (false, 1) := by kernel_rfl
theorem sz_98 : sizeB Tryz.prog 98 = some (false, 1) := by kernel_rfl
theorem zi_98 : infoB Tryz.prog 98 = some (1, 8) := by kernel_rfl
theorem zv_98 : zeroV Tryz.prog 98 = some .nilFunc := by kernel_rfl
theorem zc_98 : zeroCs Tryz.prog 98 = some [.nilFunc] := by kernel_rfl
theorem zl_98 : Lits [.nilFunc] [(.v (.lit .nilFunc))] := .lit _ rfl (.nil)
theorem sz_99 : sizeB Tryz.prog 99 = some (false, 1) := by kernel_rfl
theorem sz_100 : sizeB Tryz.prog 100 = some (false, 1) := by kernel_rfl
theorem zi_100 : infoB Tryz.prog 100 = some (1, 8) := by kernel_rfl
theorem zv_100 : zeroV Tryz.prog 100 = some .nilFunc := by kernel_rfl
theorem zc_100 : zeroCs Tryz.prog 100 = some [.nilFunc] := by kernel_rfl
theorem zl_100 : Lits [.nilFunc] [(.v (.lit .nilFunc))] := .lit _ rfl (.nil)
theorem sz_101 : sizeB Tryz.prog 101 = some (false, 1) := by kernel_rfl
theorem zi_101 : infoB Tryz.prog 101 = some (1, 8) := by kernel_rfl
theorem zv_101 : zeroV Tryz.prog 101 = some (.pointer none) := by kernel_rfl
theorem zc_101 : zeroCs Tryz.prog 101 = some [(.pointer none)] := by kernel_rfl
theorem zl_101 : Lits [(.pointer none)] [(.v (.lit (.pointer none)))] := .lit _ rfl (.nil)
theorem sz_102 : sizeB Tryz.prog 102 = some (false, 1) := by kernel_rfl
theorem zi_102 : infoB Tryz.prog 102 = some (1, 8) := by kernel_rfl
theorem zv_102 : zeroV Tryz.prog 102 = some .nilFunc := by kernel_rfl
theorem zc_102 : zeroCs Tryz.prog 102 = some [.nilFunc] := by kernel_rfl
theorem zl_102 : Lits [.nilFunc] [(.v (.lit .nilFunc))] := .lit _ rfl (.nil)
theorem sz_103 : sizeB Tryz.prog 103 = some (false, 1) := by kernel_rfl
theorem zi_103 : infoB Tryz.prog 103 = some (1, 8) := by kernel_rfl
theorem zv_103 : zeroV Tryz.prog 103 = some .nilFunc := by kernel_rfl
theorem zc_103 : zeroCs Tryz.prog 103 = some [.nilFunc] := by kernel_rfl
theorem zl_103 : Lits [.nilFunc] [(.v (.lit .nilFunc))] := .lit _ rfl (.nil)
theorem sz_104 : sizeB Tryz.prog 104 = some (false, 1) := by kernel_rfl
theorem zi_104 : infoB Tryz.prog 104 = some (1, 8) := by kernel_rfl
theorem zv_104 : zeroV Tryz.prog 104 = some .nilFunc := by kernel_rfl
theorem zc_104 : zeroCs Tryz.prog 104 = some [.nilFunc] := by kernel_rfl
theorem zl_104 : Lits [.nilFunc] [(.v (.lit .nilFunc))] := .lit _ rfl (.nil)
theorem sz_105 : sizeB Tryz.prog 105 = some (false, 1) := by kernel_rfl
theorem zi_105 : infoB Tryz.prog 105 = some (1, 8) := by kernel_rfl
theorem zv_105 : zeroV Tryz.prog 105 = some .nilFunc := by kernel_rfl
theorem zc_105 : zeroCs Tryz.prog 105 = some [.nilFunc] := by kernel_rfl
theorem zl_105 : Lits [.nilFunc] [(.v (.lit .nilFunc))] := .lit _ rfl (.nil)
theorem sz_106 : sizeB Tryz.prog 106 = some (false, 1) := by kernel_rfl
theorem zi_106 : infoB Tryz.prog 106 = some (1, 8) := by kernel_rfl
theorem zv_106 : zeroV Tryz.prog 106 = some .nilFunc := by kernel_rfl
theorem zc_106 : zeroCs Tryz.prog 106 = some [.nilFunc] := by kernel_rfl
theorem zl_106 : Lits [.nilFunc] [(.v (.lit .nilFunc))] := .lit _ rfl (.nil)
theorem sz_107 : sizeB Tryz.prog 107 = some (false, 1) := by kernel_rfl
theorem zi_107 : infoB Tryz.prog 107 = some (1, 8) := by kernel_rfl
theorem zv_107 : zeroV Tryz.prog 107 = some (.int .u64 0) := by kernel_rfl
theorem zc_107 : zeroCs Tryz.prog 107 = some [(.int .u64 0)] := by kernel_rfl
theorem zl_107 : Lits [(.int .u64 0)] [(.v (.int .u64 0))] := .int _ _ (.nil)
theorem sz_108 : sizeB Tryz.prog 108 = some (false, 1) := by kernel_rfl
theorem zi_108 : infoB Tryz.prog 108 = some (1, 8) := by kernel_rfl
theorem zv_108 : zeroV Tryz.prog 108 = some .nilFunc := by kernel_rfl
theorem zc_108 : zeroCs Tryz.prog 108 = some [.nilFunc] := by kernel_rfl
theorem zl_108 : Lits [.nilFunc] [(.v (.lit .nilFunc))] := .lit _ rfl (.nil)
theorem sz_109 : sizeB Tryz.prog 109 = some (false, 1) := by kernel_rfl
theorem zi_109 : infoB Tryz.prog 109 = some (1, 8) := by kernel_rfl
theorem zv_109 : zeroV Tryz.prog 109 = some .nilFunc := by kernel_rfl
theorem zc_109 : zeroCs Tryz.prog 109 = some [.nilFunc] := by kernel_rfl
theorem zl_109 : Lits [.nilFunc] [(.v (.lit .nilFunc))] := .lit _ rfl (.nil)
theorem sz_110 : sizeB Tryz.prog 110 = some (false, 1) := by kernel_rfl
theorem zi_110 : infoB Tryz.prog 110 = some (1, 8) := by kernel_rfl
theorem zv_110 : zeroV Tryz.prog 110 = some .nilFunc := by kernel_rfl
theorem zc_110 : zeroCs Tryz.prog 110 = some [.nilFunc] := by kernel_rfl
theorem zl_110 : Lits [.nilFunc] [(.v (.lit .nilFunc))] := .lit _ rfl (.nil)
theorem sz_111 : sizeB Tryz.prog 111 = some (false, 1) := by kernel_rfl
theorem zi_111 : infoB Tryz.prog 111 = some (1, 8) := by kernel_rfl
theorem zv_111 : zeroV Tryz.prog 111 = some .nilFunc := by kernel_rfl
theorem zc_111 : zeroCs Tryz.prog 111 = some [.nilFunc] := by kernel_rfl
theorem zl_111 : Lits [.nilFunc] [(.v (.lit .nilFunc))] := .lit _ rfl (.nil)
theorem sz_112 : sizeB Tryz.prog 112 = some (false, 1) := by kernel_rfl
theorem zi_112 : infoB Tryz.prog 112 = some (1, 8) := by kernel_rfl
theorem zv_112 : zeroV Tryz.prog 112 = some .nilFunc := by kernel_rfl
theorem zc_112 : zeroCs Tryz.prog 112 = some [.nilFunc] := by kernel_rfl
theorem zl_112 : Lits [.nilFunc] [(.v (.lit .nilFunc))] := .lit _ rfl (.nil)
theorem sz_113 : sizeB Tryz.prog 113 = some (true, 64) := by kernel_rfl
theorem pl_113 : placesB Tryz.prog 113 = some [(0, 1), (1, 1), (2, 1), (3, 1), (4, 1), (5, 1), (6, 1), (7, 1), (8, 1), (9, 1), (10, 1), (11, 1), (12, 1), (13, 1), (14, 1), (15, 1), (16, 1), (17, 1), (18, 1), (19, 1), (20, 1), (21, 1), (22, 1), (23, 1), (24, 1), (25, 1), (26, 1), (27, 1), (28, 1), (29, 1), (30, 1), (31, 1), (32, 1), (33, 1), (34, 1), (35, 1), (36, 1), (37, 1), (38, 1), (39, 1), (40, 1), (41, 1), (42, 1), (43, 1), (44, 1), (45, 1), (46, 1), (47, 1), (48, 1), (49, 1), (50, 1), (51, 1), (52, 1), (53, 1), (54, 1), (55, 1), (56, 1), (57, 1), (58, 1), (59, 1), (60, 1), (61, 1), (62, 1), (63, 1)] := by kernel_rfl
theorem zi_113 : infoB Tryz.prog 113 = some (64, 64) := by kernel_rfl
theorem zv_113 : zeroV Tryz.prog 113 = some (.agg #[(.int .u8 0), (.int .u8 0), (.int .u8 0), (.int .u8 0), (.int .u8 0), (.int .u8 0), (.int .u8 0), (.int .u8 0), (.int .u8 0), (.int .u8 0), (.int .u8 0), (.int .u8 0), (.int .u8 0), (.int .u8 0), (.int .u8 0), (.int .u8 0), (.int .u8 0), (.int .u8 0), (.int .u8 0), (.int .u8 0), (.int .u8 0), (.int .u8 0), (.int .u8 0), (.int .u8 0), (.int .u8 0), (.int .u8 0), (.int .u8 0), (.int .u8 0), (.int .u8 0), (.int .u8 0), (.int .u8 0), (.int .u8 0), (.int .u8 0), (.int .u8 0), (.int .u8 0), (.int .u8 0), (.int .u8 0), (.int .u8 0), (.int .u8 0), (.int .u8 0), (.int .u8 0), (.int .u8 0), (.int .u8 0), (.int .u8 0), (.int .u8 0), (.int .u8 0), (.int .u8 0), (.int .u8 0), (.int .u8 0), (.int .u8 0), (.int .u8 0), (.int .u8 0), (.int .u8 0), (.int .u8 0), (.int .u8 0), (.int .u8 0), (.int .u8 0), (.int .u8 0), (.int .u8 0), (.int .u8 0), (.int .u8 0), (.int .u8 0), (.int .u8 0), (.int .u8 0)]) := by kernel_rfl
theorem zc_113 : zeroCs Tryz.prog 113 = some [(.int .u8 0), (.int .u8 0), (.int .u8 0), (.int .u8 0), (.int .u8 0), (.int .u8 0), (.int .u8 0), (.int .u8 0), (.int .u8 0), (.int .u8 0), (.int .u8 0), (.int .u8 0), (.int .u8 0), (.int .u8 0), (.int .u8 0), (.int .u8 0), (.int .u8 0), (.int .u8 0), (.int .u8 0), (.int .u8 0), (.int .u8 0), (.int .u8 0), (.int .u8 0), (.int .u8 0), (.int .u8 0), (.int .u8 0), (.int .u8 0), (.int .u8 0), (.int .u8 0), (.int .u8 0), (.int .u8 0), (.int .u8 0), (.int .u8 0), (.int .u8 0), (.int .u8 0), (.int .u8 0), (.int .u8 0), (.int .u8 0), (.int .u8 0), (.int .u8 0), (.int .u8 0), (.int .u8 0), (.int .u8 0), (.int .u8 0), (.int .u8 0), (.int .u8 0), (.int .u8 0), (.int .u8 0), (.int .u8 0), (.int .u8 0), (.int .u8 0), (.int .u8 0), (.int .u8 0), (.int .u8 0), (.int .u8 0), (.int .u8 0), (.int .u8 0), (.int .u8 0), (.int .u8 0), (.int .u8 0), (.int .u8 0), (.int .u8 0), (.int .u8 0), (.int .u8 0)] := by kernel_rfl
theorem zl_113 : Lits [(.int .u8 0), (.int .u8 0), (.int .u8 0), (.int .u8 0), (.int .u8 0), (.int .u8 0), (.int .u8 0), (.int .u8 0), (.int .u8 0), (.int .u8 0), (.int .u8 0), (.int .u8 0), (.int .u8 0), (.int .u8 0), (.int .u8 0), (.int .u8 0), (.int .u8 0), (.int .u8 0), (.int .u8 0), (.int .u8 0), (.int .u8 0), (.int .u8 0), (.int .u8 0), (.int .u8 0), (.int .u8 0), (.int .u8 0), (.int .u8 0), (.int .u8 0), (.int .u8 0), (.int .u8 0), (.int .u8 0), (.int .u8 0), (.int .u8 0), (.int .u8 0), (.int .u8 0), (.int .u8 0), (.int .u8 0), (.int .u8 0), (.int .u8 0), (.int .u8 0), (.int .u8 0), (.int .u8 0), (.int .u8 0), (.int .u8 0), (.int .u8 0), (.int .u8 0), (.int .u8 0), (.int .u8 0), (.int .u8 0), (.int .u8 0), (.int .u8 0), (.int .u8 0), (.int .u8 0), (.int .u8 0), (.int .u8 0), (.int .u8 0), (.int .u8 0), (.int .u8 0), (.int .u8 0), (.int .u8 0), (.int .u8 0), (.int .u8 0), (.int .u8 0), (.int .u8 0)] [(.v (.int .u8 0)), (.v (.int .u8 0)), (.v (.int .u8 0)), (.v (.int .u8 0)), (.v (.int .u8 0)), (.v (.int .u8 0)), (.v (.int .u8 0)), (.v (.int .u8 0)), (.v (.int .u8 0)), (.v (.int .u8 0)), (.v (.int .u8 0)), (.v (.int .u8 0)), (.v (.int .u8 0)), (.v (.int .u8 0)), (.v (.int .u8 0)), (.v (.int .u8 0)), (.v (.int .u8 0)), (.v (.int .u8 0)), (.v (.int .u8 0)), (.v (.int .u8 0)), (.v (.int .u8 0)), (.v (.int .u8 0)), (.v (.int .u8 0)), (.v (.int .u8 0)), (.v (.int .u8 0)), (.v (.int .u8 0)), (.v (.int .u8 0)), (.v (.int .u8 0)), (.v (.int .u8 0)), (.v (.int .u8 0)), (.v (.int .u8 0)), (.v (.int .u8 0)), (.v (.int .u8 0)), (.v (.int .u8 0)), (.v (.int .u8 0)), (.v (.int .u8 0)), (.v (.int .u8 0)), (.v (.int .u8 0)), (.v (.int .u8 0)), (.v (.int .u8 0)), (.v (.int .u8 0)), (.v (.int .u8 0)), (.v (.int .u8 0)), (.v (.int .u8 0)), (.v (.int .u8 0)), (.v (.int .u8 0)), (.v (.int .u8 0)), (.v (.int .u8 0)), (.v (.int .u8 0)), (.v (.int .u8 0)), (.v (.int .u8 0)), (.v (.int .u8 0)), (.v (.int .u8 0)), (.v (.int .u8 0)), (.v (.int .u8 0)), (.v (.int .u8 0)), (.v (.int .u8 0)), (.v (.int .u8 0)), (.v (.int .u8 0)), (.v (.int .u8 0)), (.v (.int .u8 0)), (.v (.int .u8 0)), (.v (.int .u8 0)), (.v (.int .u8 0))] := .int _ _ (.int _ _ (.int _ _ (.int _ _ (.int _ _ (.int _ _ (.int _ _ (.int _ _ (.int _ _ (.int _ _ (.int _ _ (.int _ _ (.int _ _ (.int _ _ (.int _ _ (.int _ _ (.int _ _ (.int _ _ (.int _ _ (.int _ _ (.int _ _ (.int _ _ (.int _ _ (.int _ _ (.int _ _ (.int _ _ (.int _ _ (.int _ _ (.int _ _ (.int _ _ (.int _ _ (.int _ _ (.int _ _ (.int _ _ (.int _ _ (.int _ _ (.int _ _ (.int _ _ (.int _ _ (.int _ _ (.int _ _ (.int _ _ (.int _ _ (.int _ _ (.int _ _ (.int _ _ (.int _ _ (.int _ _ (.int _ _ (.int _ _ (.int _ _ (.int _ _ (.int _ _ (.int _ _ (.int _ _ (.int _ _ (.int _ _ (.int _ _ (.int _ _ (.int _ _ (.int _ _ (.int _ _ (.int _ _ (.int _ _ (.nil))))))))))))))))))))))))))))))))))))))))))))))))))))))))))))))))
theorem sz_114 : sizeB Tryz.prog 114 = some (false, 1) := by kernel_rfl
theorem zi_114 : infoB Tryz.prog 114 = some (1, 8) := by kernel_rfl
theorem zv_114 : zeroV Tryz.prog 114 = some .nilFunc := by kernel_rfl
theorem zc_114 : zeroCs Tryz.prog 114 = some [.nilFunc] := by kernel_rfl
theorem zl_114 : Lits [.nilFunc] [(.v (.lit .nilFunc))] := .lit _ rfl (.nil)
theorem sz_115 : sizeB Tryz.prog 115 = some (false, 1) := by kernel_rfl
theorem zi_115 : infoB Tryz.prog 115 = some (1, 8) := by kernel_rfl
theorem zv_115 : zeroV Tryz.prog 115 = some .nilFunc := by kernel_rfl
theorem zc_115 : zeroCs Tryz.prog 115 = some [.nilFunc] := by kernel_rfl
theorem zl_115 : Lits [.nilFunc] [(.v (.lit .nilFunc))] := .lit _ rfl (.nil)
theorem sz_116 : sizeB Tryz.prog 116 = some (false, 1) := by kernel_rfl
theorem zi_116 : infoB Tryz.prog 116 = some (1, 4) := by kernel_rfl
theorem zv_116 : zeroV Tryz.prog 116 = some (.int .u32 0) := by kernel_rfl
theorem zc_116 : zeroCs Tryz.prog 116 = some [(.int .u32 0)] := by kernel_rfl
theorem zl_116 : Lits [(.int .u32 0)] [(.v (.int .u32 0))] := .int _ _ (.nil)
theorem sz_117 : sizeB Tryz.prog 117 = some (false, 1) := by kernel_rfl
theorem sz_118 : sizeB Tryz.prog 118 = some (false, 1) := by kernel_rfl
theorem zi_118 : infoB Tryz.prog 118 = some (1, 8) := by kernel_rfl
theorem zv_118 : zeroV Tryz.prog 118 = some .nilFunc := by kernel_rfl
theorem zc_118 : zeroCs Tryz.prog 118 = some [.nilFunc] := by kernel_rfl
theorem zl_118 : Lits [.nilFunc] [(.v (.lit .nilFunc))] := .lit _ rfl (.nil)
theorem sz_119 : sizeB Tryz.prog 119 = some (false, 1) := by kernel_rfl
theorem zi_119 : infoB Tryz.prog 119 = some (1, 8) := by kernel_rfl
theorem zv_119 : zeroV Tryz.prog 119 = some .nilFunc := by kernel_rfl
theorem zc_119 : zeroCs Tryz.prog 119 = some [.nilFunc] := by kernel_rfl
theorem zl_119 : Lits [.nilFunc] [(.v (.lit .nilFunc))] := .lit _ rfl (.nil)
theorem sz_120 : sizeB Tryz.prog 120 = some (false, 1) := by kernel_rfl
theorem zi_120 : infoB Tryz.prog 120 = some (1, 8) := by kernel_rfl
theorem zv_120 : zeroV Tryz.prog 120 = some .nilFunc := by kernel_rfl
theorem zc_120 : zeroCs Tryz.prog 120 = some [.nilFunc] := by kernel_rfl
theorem zl_120 : Lits [.nilFunc] [(.v (.lit .nilFunc))] := .lit _ rfl (.nil)
theorem sz_121 : sizeB Tryz.prog 121 = some (false, 1) := by kernel_rfl
theorem zi_121 : infoB Tryz.prog 121 = some (1, 8) := by kernel_rfl
theorem zv_121 : zeroV Tryz.prog 121 = some .nilFunc := by kernel_rfl
theorem zc_121 : zeroCs Tryz.prog 121 = some [.nilFunc] := by kernel_rfl
theorem zl_121 : Lits [.nilFunc] [(.v (.lit .nilFunc))] := .lit _ rfl (.nil)
theorem sz_122 : sizeB Tryz.prog 122 = some (true, 256) := by kernel_rfl
theorem sz_123 : sizeB Tryz.prog 123 = some (true, 256) := by kernel_rfl
theorem sz_124 : sizeB Tryz.prog 124 = some (false, 1) := by kernel_rfl
theorem sz_125 : sizeB Tryz.prog 125 = some (false, 1) := by kernel_rfl
theorem zi_125 : infoB Tryz.prog 125 = some (1, 8) := by kernel_rfl
theorem zv_125 : zeroV Tryz.prog 125 = some .nilFunc := by kernel_rfl
theorem zc_125 : zeroCs Tryz.prog 125 = some [.nilFunc] := by kernel_rfl
theorem zl_125 : Lits [.nilFunc] [(.v (.lit .nilFunc))] := .lit _ rfl (.nil)
theorem sz_126 : sizeB Tryz.prog 126 = some (false, 1) := by kernel_rfl
theorem sz_127 : sizeB Tryz.prog 127 = some (false, 1) := by kernel_rfl
theorem zi_127 : infoB Tryz.prog 127 = some (1, 8) := by kernel_rfl
theorem zv_127 : zeroV Tryz.prog 127 = some .nilFunc := by kernel_rfl
theorem zc_127 : zeroCs Tryz.prog 127 = some [.nilFunc] := by kernel_rfl
theorem zl_127 : Lits [.nilFunc] [(.v (.lit .nilFunc))] := .lit _ rfl (.nil)
theorem sz_128 : sizeB Tryz.prog 128 = some (false, 1) := by kernel_rfl
theorem zi_128 : infoB Tryz.prog 128 = some (1, 8) := by kernel_rfl
theorem zv_128 : zeroV Tryz.prog 128 = some .nilFunc := by kernel_rfl
theorem zc_128 : zeroCs Tryz.prog 128 = some [.nilFunc] := by kernel_rfl
theorem zl_128 : Lits [.nilFunc] [(.v (.lit .nilFunc))] := .lit _ rfl (.nil)
theorem sz_129 : sizeB Tryz.prog 129 = some (true, 256) := by kernel_rfl
theorem sz_130 : sizeB Tryz.prog 130 = some (false, 1) := by kernel_rfl
theorem sz_131 : sizeB Tryz.prog 131 = some (false, 1) := by kernel_rfl
theorem zi_131 : infoB Tryz.prog 131 = some (1, 8) := by kernel_rfl
theorem zv_131 : zeroV Tryz.prog 131 = some .nilFunc := by kernel_rfl
theorem zc_131 : zeroCs Tryz.prog 131 = some [.nilFunc] := by kernel_rfl
theorem zl_131 : Lits [.nilFunc] [(.v (.lit .nilFunc))] := .lit _ rfl (.nil)
theorem sz_132 : sizeB Tryz.prog 132 = some (false, 1) := by kernel_rfl
theorem zi_132 : infoB Tryz.prog 132 = some (1, 8) := by kernel_rfl
theorem zv_132 : zeroV Tryz.prog 132 = some .nilFunc := by kernel_rfl
theorem zc_132 : zeroCs Tryz.prog 132 = some [.nilFunc] := by kernel_rfl
theorem zl_132 : Lits [.nilFunc] [(.v (.lit .nilFunc))] := .lit _ rfl (.nil)
theorem sz_133 : sizeB Tryz.prog 133 = some (false, 1) := by kernel_rfl
theorem zi_133 : infoB Tryz.prog 133 = some (1, 8) := by kernel_rfl
theorem zv_133 : zeroV Tryz.prog 133 = some (.pointer none) := by kernel_rfl
theorem zc_133 : zeroCs Tryz.prog 133 = some [(.pointer none)] := by kernel_rfl
theorem zl_133 : Lits [(.pointer none)] [(.v (.lit (.pointer none)))] := .lit _ rfl (.nil)
theorem sz_134 : sizeB Tryz.prog 134 = some (false, 1) := by kernel_rfl
theorem zi_134 : infoB Tryz.prog 134 = some (1, 8) := by kernel_rfl
theorem zv_134 : zeroV Tryz.prog 134 = some .nilFunc := by kernel_rfl
theorem zc_134 : zeroCs Tryz.prog 134 = some [.nilFunc] := by kernel_rfl
theorem zl_134 : Lits [.nilFunc] [(.v (.lit .nilFunc))] := .lit _ rfl (.nil)
theorem sz_135 : sizeB Tryz.prog 135 = some (false, 1) := by kernel_rfl
theorem zi_135 : infoB Tryz.prog 135 = some (1, 8) := by kernel_rfl
theorem zv_135 : zeroV Tryz.prog 135 = some .nilFunc := by kernel_rfl
theorem zc_135 : zeroCs Tryz.prog 135 = some [.nilFunc] := by kernel_rfl
theorem zl_135 : Lits [.nilFunc] [(.v (.lit .nilFunc))] := .lit _ rfl (.nil)
theorem sz_136 : sizeB Tryz.prog 136 = some (false, 1) := by kernel_rfl
theorem zi_136 : infoB Tryz.prog 136 = some (1, 8) := by kernel_rfl
theorem zv_136 : zeroV Tryz.prog 136 = some .nilFunc := by kernel_rfl
theorem zc_136 : zeroCs Tryz.prog 136 = some [.nilFunc] := by kernel_rfl
theorem zl_136 : Lits [.nilFunc] [(.v (.lit .nilFunc))] := .lit _ rfl (.nil)
theorem sz_137 : sizeB Tryz.prog 137 = some (false, 1) := by kernel_rfl
theorem zi_137 : infoB Tryz.prog 137 = some (1, 8) := by kernel_rfl
theorem zv_137 : zeroV Tryz.prog 137 = some .nilFunc := by kernel_rfl
theorem zc_137 : zeroCs Tryz.prog 137 = some [.nilFunc] := by kernel_rfl
theorem zl_137 : Lits [.nilFunc] [(.v (.lit .nilFunc))] := .lit _ rfl (.nil)
theorem sz_138 : sizeB Tryz.prog 138 = some (false, 1) := by kernel_rfl
theorem zi_138 : infoB Tryz.prog 138 = some (1, 8) := by kernel_rfl
theorem zv_138 : zeroV Tryz.prog 138 = some .nilFunc := by kernel_rfl
theorem zc_138 : zeroCs Tryz.prog 138 = some [.nilFunc] := by kernel_rfl
theorem zl_138 : Lits [.nilFunc] [(.v (.lit .nilFunc))] := .lit _ rfl (.nil)
theorem sz_139 : sizeB Tryz.prog 139 = some (true, 4) := by kernel_rfl
theorem pl_139 : placesB Tryz.prog 139 = some [(0, 1), (1, 1), (2, 1), (3, 1)] := by kernel_rfl
theorem zi_139 : infoB Tryz.prog 139 = some (4, 4) := by kernel_rfl
theorem zv_139 : zeroV Tryz.prog 139 = some (.agg #[(.int .u8 0), (.int .u8 0), (.int .u8 0), (.int .u8 0)]) := by kernel_rfl
theorem zc_139 : zeroCs Tryz.prog 139 = some [(.int .u8 0), (.int .u8 0), (.int .u8 0), (.int .u8 0)] := by kernel_rfl
theorem zl_139 : Lits [(.int .u8 0), (.int .u8 0), (.int .u8 0), (.int .u8 0)] [(.v (.int .u8 0)), (.v (.int .u8 0)), (.v (.int .u8 0)), (.v (.int .u8 0))] := .int _ _ (.int _ _ (.int _ _ (.int _ _ (.nil))))
theorem sz_140 : sizeB Tryz.prog 140 = some (false, 1) := by kernel_rfl
theorem zi_140 : infoB Tryz.prog 140 = some (1, 8) := by kernel_rfl
theorem zv_140 : zeroV Tryz.prog 140 = some (.pointer none) := by kernel_rfl
theorem zc_140 : zeroCs Tryz.prog 140 = some [(.pointer none)] := by kernel_rfl
theorem zl_140 : Lits [(.pointer none)] [(.v (.lit (.pointer none)))] := .lit _ rfl (.nil)
theorem sz_141 : sizeB Tryz.prog 141 = some (false, 1) := by kernel_rfl
theorem zi_141 : infoB Tryz.prog 141 = some (1, 8) := by kernel_rfl
theorem zv_141 : zeroV Tryz.prog 141 = some .nilFunc := by kernel_rfl
theorem zc_141 : zeroCs Tryz.prog 141 = some [.nilFunc] := by kernel_rfl
theorem zl_141 : Lits [.nilFunc] [(.v (.lit .nilFunc))] := .lit _ rfl (.nil)
theorem sz_142 : sizeB Tryz.prog 142 = some (true, 256) := by kernel_rfl
theorem sz_143 : sizeB Tryz.prog 143 = some (true, 2) := by kernel_rfl
theorem fo_143_0 : fieldOff Tryz.prog 143 0 = some 0 := by kernel_rfl
theorem fo_143_1 : fieldOff Tryz.prog 143 1 = some 1 := by kernel_rfl
theorem pl_143 : placesB Tryz.prog 143 = some [(0, 1), (1, 1)] := by kernel_rfl
theorem zi_143 : infoB Tryz.prog 143 = some (2, 2) := by kernel_rfl
theorem zv_143 : zeroV Tryz.prog 143 = some (.agg #[(.int .u8 0), (.int .u8 0)]) := by kernel_rfl
theorem zc_143 : zeroCs Tryz.prog 143 = some [(.int .u8 0), (.int .u8 0)] := by kernel_rfl
theorem zl_143 : Lits [(.int .u8 0), (.int .u8 0)] [(.v (.int .u8 0)), (.v (.int .u8 0))] := .int _ _ (.int _ _ (.nil))
theorem sz_144 : sizeB Tryz.prog 144 = some (true, 2) := by kernel_rfl
theorem fo_144_0 : fieldOff Tryz.prog 144 0 = some 0 := by kernel_rfl
theorem fo_144_1 : fieldOff Tryz.prog 144 1 = some 1 := by kernel_rfl
theorem pl_144 : placesB Tryz.prog 144 = some [(0, 1), (1, 1)] := by kernel_rfl
theorem zi_144 : infoB Tryz.prog 144 = some (2, 2) := by kernel_rfl
theorem zv_144 : zeroV Tryz.prog 144 = some (.agg #[(.int .u8 0), (.int .u8 0)]) := by kernel_rfl
theorem zc_144 : zeroCs Tryz.prog 144 = some [(.int .u8 0), (.int .u8 0)] := by kernel_rfl
theorem zl_144 : Lits [(.int .u8 0), (.int .u8 0)] [(.v (.int .u8 0)), (.v (.int .u8 0))] := .int _ _ (.int _ _ (.nil))
theorem sz_145 : sizeB Tryz.prog 145 = some (true, 32) := by kernel_rfl
theorem pl_145 : placesB Tryz.prog 145 = some [(0, 2), (2, 2), (4, 2), (6, 2), (8, 2), (10, 2), (12, 2), (14, 2), (16, 2), (18, 2), (20, 2), (22, 2), (24, 2), (26, 2), (28, 2), (30, 2)] := by kernel_rfl
theorem zi_145 : infoB Tryz.prog 145 = some (32, 32) := by kernel_rfl
theorem zv_145 : zeroV Tryz.prog 145 = some (.agg #[(.int .u8 0), (.int .u8 0), (.int .u8 0), (.int .u8 0), (.int .u8 0), (.int .u8 0), (.int .u8 0), (.int .u8 0), (.int .u8 0), (.int .u8 0), (.int .u8 0), (.int .u8 0), (.int .u8 0), (.int .u8 0), (.int .u8 0), (.int .u8 0), (.int .u8 0), (.int .u8 0), (.int .u8 0), (.int .u8 0), (.int .u8 0), (.int .u8 0), (.int .u8 0), (.int .u8 0), (.int .u8 0), (.int .u8 0), (.int .u8 0), (.int .u8 0), (.int .u8 0), (.int .u8 0), (.int .u8 0), (.int .u8 0)]) := by kernel_rfl
theorem zc_145 : zeroCs Tryz.prog 145 = some [(.int .u8 0), (.int .u8 0), (.int .u8 0), (.int .u8 0), (.int .u8 0), (.int .u8 0), (.int .u8 0), (.int .u8 0), (.int .u8 0), (.int .u8 0), (.int .u8 0), (.int .u8 0), (.int .u8 0), (.int .u8 0), (.int .u8 0), (.int .u8 0), (.int .u8 0), (.int .u8 0), (.int .u8 0), (.int .u8 0), (.int .u8 0), (.int .u8 0), (.int .u8 0), (.int .u8 0), (.int .u8 0), (.int .u8 0), (.int .u8 0), (.int .u8 0), (.int .u8 0), (.int .u8 0), (.int .u8 0), (.int .u8 0)] := by kernel_rfl
theorem zl_145 : Lits [(.int .u8 0), (.int .u8 0), (.int .u8 0), (.int .u8 0), (.int .u8 0), (.int .u8 0), (.int .u8 0), (.int .u8 0), (.int .u8 0), (.int .u8 0), (.int .u8 0), (.int .u8 0), (.int .u8 0), (.int .u8 0), (.int .u8 0), (.int .u8 0), (.int .u8 0), (.int .u8 0), (.int .u8 0), (.int .u8 0), (.int .u8 0), (.int .u8 0), (.int .u8 0), (.int .u8 0), (.int .u8 0), (.int .u8 0), (.int .u8 0), (.int .u8 0), (.int .u8 0), (.int .u8 0), (.int .u8 0), (.int .u8 0)] [(.v (.int .u8 0)), (.v (.int .u8 0)), (.v (.int .u8 0)), (.v (.int .u8 0)), (.v (.int .u8 0)), (.v (.int .u8 0)), (.v (.int .u8 0)), (.v (.int .u8 0)), (.v (.int .u8 0)), (.v (.int .u8 0)), (.v (.int .u8 0)), (.v (.int .u8 0)), (.v (.int .u8 0)), (.v (.int .u8 0)), (.v (.int .u8 0)), (.v (.int .u8 0)), (.v (.int .u8 0)), (.v (.int .u8 0)), (.v (.int .u8 0)), (.v (.int .u8 0)), (.v (.int .u8 0)), (.v (.int .u8 0)), (.v (.int .u8 0)), (.v (.int .u8 0)), (.v (.int .u8 0)), (.v (.int .u8 0)), (.v (.int .u8 0)), (.v (.int .u8 0)), (.v (.int .u8 0)), (.v (.int .u8 0)), (.v (.int .u8 0)), (.v (.int .u8 0))] := .int _ _ (.int _ _ (.int _ _ (.int _ _ (.int _ _ (.int _ _ (.int _ _ (.int _ _ (.int _ _ (.int _ _ (.int _ _ (.int _ _ (.int _ _ (.int _ _ (.int _ _ (.int _ _ (.int _ _ (.int _ _ (.int _ _ (.int _ _ (.int _ _ (.int _ _ (.int _ _ (.int _ _ (.int _ _ (.int _ _ (.int _ _ (.int _ _ (.int _ _ (.int _ _ (.int _ _ (.int _ _ (.nil))))))))))))))))))))))))))))))))
theorem sz_146 : sizeB Tryz.prog 146 = some (false, 1) := by kernel_rfl
theorem zi_146 : infoB Tryz.prog 146 = some (1, 8) := by kernel_rfl
theorem zv_146 : zeroV Tryz.prog 146 = some .nilFunc := by kernel_rfl
theorem zc_146 : zeroCs Tryz.prog 146 = some [.nilFunc] := by kernel_rfl
theorem zl_146 : Lits [.nilFunc] [(.v (.lit .nilFunc))] := .lit _ rfl (.nil)
theorem sz_147 : sizeB Tryz.prog 147 = some (false, 1) := by kernel_rfl
theorem zi_147 : infoB Tryz.prog 147 = some (1, 8) := by kernel_rfl
theorem zv_147 : zeroV Tryz.prog 147 = some .nilFunc := by kernel_rfl
theorem zc_147 : zeroCs Tryz.prog 147 = some [.nilFunc] := by kernel_rfl
theorem zl_147 : Lits [.nilFunc] [(.v (.lit .nilFunc))] := .lit _ rfl (.nil)
theorem sz_148 : sizeB Tryz.prog 148 = some (false, 1) := by kernel_rfl
theorem zi_148 : infoB Tryz.prog 148 = some (1, 8) := by kernel_rfl
theorem zv_148 : zeroV Tryz.prog 148 = some (.pointer none) := by kernel_rfl
theorem zc_148 : zeroCs Tryz.prog 148 = some [(.pointer none)] := by kernel_rfl
theorem zl_148 : Lits [(.pointer none)] [(.v (.lit (.pointer none)))] := .lit _ rfl (.nil)
theorem sz_149 : sizeB Tryz.prog 149 = some (true, 4) := by kernel_rfl
theorem fo_149_0 : fieldOff Tryz.prog 149 0 = some 0 := by kernel_rfl
theorem fo_149_1 : fieldOff Tryz.prog 149 1 = some 1 := by kernel_rfl
theorem fo_149_2 : fieldOff Tryz.prog 149 2 = some 2 := by kernel_rfl
theorem fo_149_3 : fieldOff Tryz.prog 149 3 = some 3 := by kernel_rfl
theorem pl_149 : placesB Tryz.prog 149 = some [(0, 1), (1, 1), (2, 1), (3, 1)] := by kernel_rfl
theorem zi_149 : infoB Tryz.prog 149 = some (4, 40) := by kernel_rfl
theorem zv_149 : zeroV Tryz.prog 149 = some (.agg #[(.pointer none), (.pointer none), (.pointer none), (.string ByteArray.empty)]) := by kernel_rfl
theorem zc_149 : zeroCs Tryz.prog 149 = some [(.pointer none), (.pointer none), (.pointer none), (.string ByteArray.empty)] := by kernel_rfl
theorem zl_149 : Lits [(.pointer none), (.pointer none), (.pointer none), (.string ByteArray.empty)] [(.v (.lit (.pointer none))), (.v (.lit (.pointer none))), (.v (.lit (.pointer none))), (.v (.str []))] := .lit _ rfl (.lit _ rfl (.lit _ rfl (.str (.nil))))
theorem sz_150 : sizeB Tryz.prog 150 = some (true, 4) := by kernel_rfl
theorem fo_150_0 : fieldOff Tryz.prog 150 0 = some 0 := by kernel_rfl
theorem fo_150_1 : fieldOff Tryz.prog 150 1 = some 1 := by kernel_rfl
theorem fo_150_2 : fieldOff Tryz.prog 150 2 = some 2 := by kernel_rfl
theorem fo_150_3 : fieldOff Tryz.prog 150 3 = some 3 := by kernel_rfl
theorem pl_150 : placesB Tryz.prog 150 = some [(0, 1), (1, 1), (2, 1), (3, 1)] := by kernel_rfl
theorem zi_150 : infoB Tryz.prog 150 = some (4, 40) := by kernel_rfl
theorem zv_150 : zeroV Tryz.prog 150 = some (.agg #[(.pointer none), (.pointer none), (.pointer none), (.string ByteArray.empty)]) := by kernel_rfl
theorem zc_150 : zeroCs Tryz.prog 150 = some [(.pointer none), (.pointer none), (.pointer none), (.string ByteArray.empty)] := by kernel_rfl
theorem zl_150 : Lits [(.pointer none), (.pointer none), (.pointer none), (.string ByteArray.empty)] [(.v (.lit (.pointer none))), (.v (.lit (.pointer none))), (.v (.lit (.pointer none))), (.v (.str []))] := .lit _ rfl (.lit _ rfl (.lit _ rfl (.str (.nil))))
theorem sz_151 : sizeB Tryz.prog 151 = some (true, 0) := by kernel_rfl
theorem pl_151 : placesB Tryz.prog 151 = some [] := by kernel_rfl
theorem zv_151 : zeroV Tryz.prog 151 = some (.agg #[]) := by kernel_rfl
theorem zc_151 : zeroCs Tryz.prog 151 = some [] := by kernel_rfl
theorem zl_151 : Lits [] [] := .nil
theorem sz_152 : sizeB Tryz.prog 152 = some (true, 0) := by kernel_rfl
theorem pl_152 : placesB Tryz.prog 152 = some [(0, 0)] := by kernel_rfl
theorem zv_152 : zeroV Tryz.prog 152 = some (.agg #[]) := by kernel_rfl
theorem zc_152 : zeroCs Tryz.prog 152 = some [] := by kernel_rfl
theorem zl_152 : Lits [] [] := .nil
theorem sz_153 : sizeB Tryz.prog 153 = some (true, 0) := by kernel_rfl
theorem pl_153 : placesB Tryz.prog 153 = some [(0, 0)] := by kernel_rfl
theorem zv_153 : zeroV Tryz.prog 153 = some (.agg #[]) := by kernel_rfl
theorem zc_153 : zeroCs Tryz.prog 153 = some [] := by kernel_rfl
theorem zl_153 : Lits [] [] := .nil
theorem sz_154 : sizeB Tryz.prog 154 = some (false, 1) := by kernel_rfl
theorem zi_154 : infoB Tryz.prog 154 = some (1, 1) := by kernel_rfl
theorem by_154 : byteB Tryz.prog 154 = true := by kernel_rfl
theorem zv_154 : zeroV Tryz.prog 154 = some (.int .u8 0) := by kernel_rfl
theorem zc_154 : zeroCs Tryz.prog 154 = some [(.int .u8 0)] := by kernel_rfl
theorem zl_154 : Lits [(.int .u8 0)] [(.v (.int .u8 0))] := .int _ _ (.nil)
theorem sz_155 : sizeB Tryz.prog 155 = some (false, 1) := by kernel_rfl
theorem zi_155 : infoB Tryz.prog 155 = some (1, 1) := by kernel_rfl
theorem by_155 : byteB Tryz.prog 155 = true := by kernel_rfl
theorem zv_155 : zeroV Tryz.prog 155 = some (.int .u8 0) := by kernel_rfl
theorem zc_155 : zeroCs Tryz.prog 155 = some [(.int .u8 0)] := by kernel_rfl
theorem zl_155 : Lits [(.int .u8 0)] [(.v (.int .u8 0))] := .int _ _ (.nil)
theorem sz_156 : sizeB Tryz.prog 156 = some (false, 1) := by kernel_rfl
theorem zi_156 : infoB Tryz.prog 156 = some (1, 8) := by kernel_rfl
theorem zv_156 : zeroV Tryz.prog 156 = some .nilFunc := by kernel_rfl
theorem zc_156 : zeroCs Tryz.prog 156 = some [.nilFunc] := by kernel_rfl
theorem zl_156 : Lits [.nilFunc] [(.v (.lit .nilFunc))] := .lit _ rfl (.nil)
theorem sz_157 : sizeB Tryz.prog 157 = some (false, 1) := by kernel_rfl
theorem zi_157 : infoB Tryz.prog 157 = some (1, 8) := by kernel_rfl
theorem zv_157 : zeroV Tryz.prog 157 = some (.pointer none) := by kernel_rfl
theorem zc_157 : zeroCs Tryz.prog 157 = some [(.pointer none)] := by kernel_rfl
theorem zl_157 : Lits [(.pointer none)] [(.v (.lit (.pointer none)))] := .lit _ rfl (.nil)
theorem sz_158 : sizeB Tryz.prog 158 = some (false, 1) := by kernel_rfl
theorem zi_158 : infoB Tryz.prog 158 = some (1, 4) := by kernel_rfl
theorem zv_158 : zeroV Tryz.prog 158 = some (.int .i32 0) := by kernel_rfl
theorem zc_158 : zeroCs Tryz.prog 158 = some [(.int .i32 0)] := by kernel_rfl
theorem zl_158 : Lits [(.int .i32 0)] [(.v (.int .i32 0))] := .int _ _ (.nil)
theorem sz_159 : sizeB Tryz.prog 159 = some (false, 1) := by kernel_rfl
theorem zi_159 : infoB Tryz.prog 159 = some (1, 4) := by kernel_rfl
theorem zv_159 : zeroV Tryz.prog 159 = some (.int .i32 0) := by kernel_rfl
theorem zc_159 : zeroCs Tryz.prog 159 = some [(.int .i32 0)] := by kernel_rfl
theorem zl_159 : Lits [(.int .i32 0)] [(.v (.int .i32 0))] := .int _ _ (.nil)
theorem sz_160 : sizeB Tryz.prog 160 = some (true, 11) := by kernel_rfl
theorem fo_160_0 : fieldOff Tryz.prog 160 0 = some 0 := by kernel_rfl
theorem fo_160_1 : fieldOff Tryz.prog 160 1 = some 1 := by kernel_rfl
theorem fo_160_2 : fieldOff Tryz.prog 160 2 = some 2 := by kernel_rfl
theorem fo_160_3 : fieldOff Tryz.prog 160 3 = some 3 := by kernel_rfl
theorem fo_160_4 : fieldOff Tryz.prog 160 4 = some 4 := by kernel_rfl
theorem fo_160_5 : fieldOff Tryz.prog 160 5 = some 5 := by kernel_rfl
theorem fo_160_6 : fieldOff Tryz.prog 160 6 = some 6 := by kernel_rfl
theorem fo_160_7 : fieldOff Tryz.prog 160 7 = some 7 := by kernel_rfl
theorem fo_160_8 : fieldOff Tryz.prog 160 8 = some 8 := by kernel_rfl
theorem fo_160_9 : fieldOff Tryz.prog 160 9 = some 9 := by kernel_rfl
theorem fo_160_10 : fieldOff Tryz.prog 160 10 = some 10 := by kernel_rfl
theorem pl_160 : placesB Tryz.prog 160 = some [(0, 1), (1, 1), (2, 1), (3, 1), (4, 1), (5, 1), (6, 1), (7, 1), (8, 1), (9, 1), (10, 1)] := by kernel_rfl
theorem zi_160 : infoB Tryz.prog 160 = some (11, 48) := by kernel_rfl
theorem zv_160 : zeroV Tryz.prog 160 = some (.agg #[(.int .u64 0), (.int .u64 0), (.int .u32 0), (.int .u8 0), (.int .u8 0), (.int .u8 0), (.int .u8 0), .nilFunc, (.pointer none), (.int .i32 0), (.int .i32 0)]) := by kernel_rfl
theorem zc_160 : zeroCs Tryz.prog 160 = some [(.int .u64 0), (.int .u64 0), (.int .u32 0), (.int .u8 0), (.int .u8 0), (.int .u8 0), (.int .u8 0), .nilFunc, (.pointer none), (.int .i32 0), (.int .i32 0)] := by kernel_rfl
theorem zl_160 : Lits [(.int .u64 0), (.int .u64 0), (.int .u32 0), (.int .u8 0), (.int .u8 0), (.int .u8 0), (.int .u8 0), .nilFunc, (.pointer none), (.int .i32 0), (.int .i32 0)] [(.v (.int .u64 0)), (.v (.int .u64 0)), (.v (.int .u32 0)), (.v (.int .u8 0)), (.v (.int .u8 0)), (.v (.int .u8 0)), (.v (.int .u8 0)), (.v (.lit .nilFunc)), (.v (.lit (.pointer none))), (.v (.int .i32 0)), (.v (.int .i32 0))] := .int _ _ (.int _ _ (.int _ _ (.int _ _ (.int _ _ (.int _ _ (.int _ _ (.lit _ rfl (.lit _ rfl (.int _ _ (.int _ _ (.nil)))))))))))
theorem sz_161 : sizeB Tryz.prog 161 = some (true, 11) := by kernel_rfl
theorem fo_161_0 : fieldOff Tryz.prog 161 0 = some 0 := by kernel_rfl
theorem fo_161_1 : fieldOff Tryz.prog 161 1 = some 1 := by kernel_rfl
theorem fo_161_2 : fieldOff Tryz.prog 161 2 = some 2 := by kernel_rfl
theorem fo_161_3 : fieldOff Tryz.prog 161 3 = some 3 := by kernel_rfl
theorem fo_161_4 : fieldOff Tryz.prog 161 4 = some 4 := by kernel_rfl
theorem fo_161_5 : fieldOff Tryz.prog 161 5 = some 5 := by kernel_rfl
theorem fo_161_6 : fieldOff Tryz.prog 161 6 = some 6 := by kernel_rfl
theorem fo_161_7 : fieldOff Tryz.prog 161 7 = some 7 := by kernel_rfl
theorem fo_161_8 : fieldOff Tryz.prog 161 8 = some 8 := by kernel_rfl
theorem fo_161_9 : fieldOff Tryz.prog 161 9 = some 9 := by kernel_rfl
theorem fo_161_10 : fieldOff Tryz.prog 161 10 = some 10 := by kernel_rfl
theorem pl_161 : placesB Tryz.prog 161 = some [(0, 1), (1, 1), (2, 1), (3, 1), (4, 1), (5, 1), (6, 1), (7, 1), (8, 1), (9, 1), (10, 1)] := by kernel_rfl
theorem zi_161 : infoB Tryz.prog 161 = some (11, 48) := by kernel_rfl
theorem zv_161 : zeroV Tryz.prog 161 = some (.agg #[(.int .u64 0), (.int .u64 0), (.int .u32 0), (.int .u8 0), (.int .u8 0), (.int .u8 0), (.int .u8 0), .nilFunc, (.pointer none), (.int .i32 0), (.int .i32 0)]) := by kernel_rfl
theorem zc_161 : zeroCs Tryz.prog 161 = some [(.int .u64 0), (.int .u64 0), (.int .u32 0), (.int .u8 0), (.int .u8 0), (.int .u8 0), (.int .u8 0), .nilFunc, (.pointer none), (.int .i32 0), (.int .i32 0)] := by kernel_rfl
theorem zl_161 : Lits [(.int .u64 0), (.int .u64 0), (.int .u32 0), (.int .u8 0), (.int .u8 0), (.int .u8 0), (.int .u8 0), .nilFunc, (.pointer none), (.int .i32 0), (.int .i32 0)] [(.v (.int .u64 0)), (.v (.int .u64 0)), (.v (.int .u32 0)), (.v (.int .u8 0)), (.v (.int .u8 0)), (.v (.int .u8 0)), (.v (.int .u8 0)), (.v (.lit .nilFunc)), (.v (.lit (.pointer none))), (.v (.int .i32 0)), (.v (.int .i32 0))] := .int _ _ (.int _ _ (.int _ _ (.int _ _ (.int _ _ (.int _ _ (.int _ _ (.lit _ rfl (.lit _ rfl (.int _ _ (.int _ _ (.nil)))))))))))
theorem sz_162 : sizeB Tryz.prog 162 = some (true, 1) := by kernel_rfl
theorem fo_162_0 : fieldOff Tryz.prog 162 0 = some 0 := by kernel_rfl
theorem pl_162 : placesB Tryz.prog 162 = some [(0, 1)] := by kernel_rfl
theorem zi_162 : infoB Tryz.prog 162 = some (1, 16) := by kernel_rfl
theorem zv_162 : zeroV Tryz.prog 162 = some (.agg #[(.string ByteArray.empty)]) := by kernel_rfl
theorem zc_162 : zeroCs Tryz.prog 162 = some [(.string ByteArray.empty)] := by kernel_rfl
theorem zl_162 : Lits [(.string ByteArray.empty)] [(.v (.str []))] := .str (.nil)
theorem sz_163 : sizeB Tryz.prog 163 = some (true, 1) := by kernel_rfl
theorem fo_163_0 : fieldOff Tryz.prog 163 0 = some 0 := by kernel_rfl
theorem pl_163 : placesB Tryz.prog 163 = some [(0, 1)] := by kernel_rfl
theorem zi_163 : infoB Tryz.prog 163 = some (1, 16) := by kernel_rfl
theorem zv_163 : zeroV Tryz.prog 163 = some (.agg #[(.string ByteArray.empty)]) := by kernel_rfl
theorem zc_163 : zeroCs Tryz.prog 163 = some [(.string ByteArray.empty)] := by kernel_rfl
theorem zl_163 : Lits [(.string ByteArray.empty)] [(.v (.str []))] := .str (.nil)
theorem sz_164 : sizeB Tryz.prog 164 = some (false, 1) := by kernel_rfl
theorem zi_164 : infoB Tryz.prog 164 = some (1, 8) := by kernel_rfl
theorem zv_164 : zeroV Tryz.prog 164 = some (.pointer none) := by kernel_rfl
theorem zc_164 : zeroCs Tryz.prog 164 = some [(.pointer none)] := by kernel_rfl
theorem zl_164 : Lits [(.pointer none)] [(.v (.lit (.pointer none)))] := .lit _ rfl (.nil)
theorem sz_165 : sizeB Tryz.prog 165 = some (false, 1) := by kernel_rfl
theorem zi_165 : infoB Tryz.prog 165 = some (1, 8) := by kernel_rfl
theorem zv_165 : zeroV Tryz.prog 165 = some .nilFunc := by kernel_rfl
theorem zc_165 : zeroCs Tryz.prog 165 = some [.nilFunc] := by kernel_rfl
theorem zl_165 : Lits [.nilFunc] [(.v (.lit .nilFunc))] := .lit _ rfl (.nil)
theorem sk_46 : structK Tryz.prog 46 = some [.str, .str, .bool] := by kernel_rfl
theorem sk_49 : structK Tryz.prog 49 = some [.int .i64] := by kernel_rfl
theorem mx_all : Tryz.prog.follows .mixedOrders = true := by kernel_rfl
theorem en_2 : entersB Tryz.prog 2 = true := by kernel_rfl
theorem en_3 : entersB Tryz.prog 3 = true := by kernel_rfl
theorem en_4 : entersB Tryz.prog 4 = true := by kernel_rfl
theorem en_5 : entersB Tryz.prog 5 = true := by kernel_rfl
theorem en_6 : entersB Tryz.prog 6 = true := by kernel_rfl
theorem en_7 : entersB Tryz.prog 7 = true := by kernel_rfl
theorem en_8 : entersB Tryz.prog 8 = true := by kernel_rfl
theorem en_9 : entersB Tryz.prog 9 = true := by kernel_rfl
theorem en_10 : entersB Tryz.prog 10 = true := by kernel_rfl
theorem en_11 : entersB Tryz.prog 11 = true := by kernel_rfl
theorem en_12 : entersB Tryz.prog 12 = true := by kernel_rfl
theorem en_13 : entersB Tryz.prog 13 = true := by kernel_rfl
theorem en_14 : entersB Tryz.prog 14 = true := by kernel_rfl
theorem en_15 : entersB Tryz.prog 15 = true := by kernel_rfl
theorem en_16 : entersB Tryz.prog 16 = true := by kernel_rfl
theorem en_17 : entersB Tryz.prog 17 = true := by kernel_rfl
theorem en_18 : entersB Tryz.prog 18 = true := by kernel_rfl
theorem en_19 : entersB Tryz.prog 19 = true := by kernel_rfl
theorem en_20 : entersB Tryz.prog 20 = true := by kernel_rfl
theorem en_21 : entersB Tryz.prog 21 = true := by kernel_rfl
theorem en_22 : entersB Tryz.prog 22 = true := by kernel_rfl
theorem en_23 : entersB Tryz.prog 23 = true := by kernel_rfl
theorem en_24 : entersB Tryz.prog 24 = true := by kernel_rfl
theorem en_25 : entersB Tryz.prog 25 = true := by kernel_rfl
theorem en_26 : entersB Tryz.prog 26 = true := by kernel_rfl
theorem en_27 : entersB Tryz.prog 27 = true := by kernel_rfl
theorem en_28 : entersB Tryz.prog 28 = true := by kernel_rfl
theorem en_29 : entersB Tryz.prog 29 = true := by kernel_rfl
theorem en_30 : entersB Tryz.prog 30 = true := by kernel_rfl
theorem en_31 : entersB Tryz.prog 31 = true := by kernel_rfl
theorem en_32 : entersB Tryz.prog 32 = true := by kernel_rfl
theorem en_33 : entersB Tryz.prog 33 = true := by kernel_rfl
theorem en_34 : entersB Tryz.prog 34 = true := by kernel_rfl
theorem en_35 : entersB Tryz.prog 35 = true := by kernel_rfl
theorem en_36 : entersB Tryz.prog 36 = true := by kernel_rfl
theorem en_37 : entersB Tryz.prog 37 = true := by kernel_rfl
theorem en_38 : entersB Tryz.prog 38 = true := by kernel_rfl
theorem en_39 : entersB Tryz.prog 39 = true := by kernel_rfl
theorem en_40 : entersB Tryz.prog 40 = true := by kernel_rfl
theorem en_41 : entersB Tryz.prog 41 = true := by kernel_rfl
theorem en_42 : entersB Tryz.prog 42 = true := by kernel_rfl
theorem en_43 : entersB Tryz.prog 43 = true := by kernel_rfl
theorem en_44 : entersB Tryz.prog 44 = true := by kernel_rfl
theorem en_45 : entersB Tryz.prog 45 = true := by kernel_rfl
theorem en_46 : entersB Tryz.prog 46 = true := by kernel_rfl
theorem en_47 : entersB Tryz.prog 47 = true := by kernel_rfl
theorem en_48 : entersB Tryz.prog 48 = true := by kernel_rfl
theorem en_49 : entersB Tryz.prog 49 = true := by kernel_rfl
theorem en_50 : entersB Tryz.prog 50 = true := by kernel_rfl
theorem en_51 : entersB Tryz.prog 51 = true := by kernel_rfl
theorem en_52 : entersB Tryz.prog 52 = true := by kernel_rfl
theorem en_53 : entersB Tryz.prog 53 = true := by kernel_rfl
theorem en_54 : entersB Tryz.prog 54 = true := by kernel_rfl
theorem en_55 : entersB Tryz.prog 55 = true := by kernel_rfl
theorem en_56 : entersB Tryz.prog 56 = true := by kernel_rfl
theorem en_57 : entersB Tryz.prog 57 = true := by kernel_rfl
theorem en_58 : entersB Tryz.prog 58 = true := by kernel_rfl
theorem en_59 : entersB Tryz.prog 59 = true := by kernel_rfl
theorem en_60 : entersB Tryz.prog 60 = true := by kernel_rfl
theorem en_61 : entersB Tryz.prog 61 = true := by kernel_rfl
theorem en_62 : entersB Tryz.prog 62 = true := by kernel_rfl
theorem en_63 : entersB Tryz.prog 63 = true := by kernel_rfl
theorem en_64 : entersB Tryz.prog 64 = true := by kernel_rfl
theorem en_65 : entersB Tryz.prog 65 = true := by kernel_rfl
theorem en_66 : entersB Tryz.prog 66 = true := by kernel_rfl
theorem en_67 : entersB Tryz.prog 67 = true := by kernel_rfl
theorem en_68 : entersB Tryz.prog 68 = true := by kernel_rfl
theorem en_69 : entersB Tryz.prog 69 = true := by kernel_rfl
theorem en_70 : entersB Tryz.prog 70 = true := by kernel_rfl
theorem en_71 : entersB Tryz.prog 71 = true := by kernel_rfl
theorem en_72 : entersB Tryz.prog 72 = true := by kernel_rfl
theorem en_73 : entersB Tryz.prog 73 = true := by kernel_rfl
theorem en_74 : entersB Tryz.prog 74 = true := by kernel_rfl
theorem en_76 : entersB Tryz.prog 76 = true := by kernel_rfl
theorem en_77 : entersB Tryz.prog 77 = true := by kernel_rfl
theorem en_78 : entersB Tryz.prog 78 = true := by kernel_rfl
theorem en_79 : entersB Tryz.prog 79 = true := by kernel_rfl
theorem en_80 : entersB Tryz.prog 80 = true := by kernel_rfl
theorem en_81 : entersB Tryz.prog 81 = true := by kernel_rfl
theorem en_82 : entersB Tryz.prog 82 = true := by kernel_rfl
theorem en_83 : entersB Tryz.prog 83 = true := by kernel_rfl
theorem en_84 : entersB Tryz.prog 84 = true := by kernel_rfl
theorem en_85 : entersB Tryz.prog 85 = true := by kernel_rfl
theorem en_86 : entersB Tryz.prog 86 = true := by kernel_rfl
theorem en_87 : entersB Tryz.prog 87 = true := by kernel_rfl
theorem en_88 : entersB Tryz.prog 88 = true := by kernel_rfl
theorem en_89 : entersB Tryz.prog 89 = true := by kernel_rfl
theorem en_90 : entersB Tryz.prog 90 = true := by kernel_rfl
theorem en_91 : entersB Tryz.prog 91 = true := by kernel_rfl
theorem en_92 : entersB Tryz.prog 92 = true := by kernel_rfl
theorem en_94 : entersB Tryz.prog 94 = true := by kernel_rfl
theorem en_96 : entersB Tryz.prog 96 = true := by kernel_rfl
theorem en_97 : entersB Tryz.prog 97 = true := by kernel_rfl
theorem en_98 : entersB Tryz.prog 98 = true := by kernel_rfl
theorem en_99 : entersB Tryz.prog 99 = true := by kernel_rfl
theorem en_100 : entersB Tryz.prog 100 = true := by kernel_rfl
theorem en_102 : entersB Tryz.prog 102 = true := by kernel_rfl
theorem en_103 : entersB Tryz.prog 103 = true := by kernel_rfl
theorem en_104 : entersB Tryz.prog 104 = true := by kernel_rfl
theorem en_105 : entersB Tryz.prog 105 = true := by kernel_rfl
theorem en_106 : entersB Tryz.prog 106 = true := by kernel_rfl
theorem en_107 : entersB Tryz.prog 107 = true := by kernel_rfl
theorem en_108 : entersB Tryz.prog 108 = true := by kernel_rfl
theorem en_109 : entersB Tryz.prog 109 = true := by kernel_rfl
theorem en_110 : entersB Tryz.prog 110 = true := by kernel_rfl
theorem en_111 : entersB Tryz.prog 111 = true := by kernel_rfl
theorem en_112 : entersB Tryz.prog 112 = true := by kernel_rfl
theorem en_113 : entersB Tryz.prog 113 = true := by kernel_rfl
theorem en_114 : entersB Tryz.prog 114 = true := by kernel_rfl
theorem en_115 : entersB Tryz.prog 115 = true := by kernel_rfl
theorem en_117 : entersB Tryz.prog 117 = true := by kernel_rfl
theorem en_118 : entersB Tryz.prog 118 = true := by kernel_rfl
theorem en_119 : entersB Tryz.prog 119 = true := by kernel_rfl
theorem en_120 : entersB Tryz.prog 120 = true := by kernel_rfl
theorem en_121 : entersB Tryz.prog 121 = true := by kernel_rfl
theorem en_122 : entersB Tryz.prog 122 = true := by kernel_rfl
theorem en_123 : entersB Tryz.prog 123 = true := by kernel_rfl
theorem en_124 : entersB Tryz.prog 124 = true := by kernel_rfl
theorem en_125 : entersB Tryz.prog 125 = true := by kernel_rfl
theorem en_126 : entersB Tryz.prog 126 = true := by kernel_rfl
theorem en_127 : entersB Tryz.prog 127 = true := by kernel_rfl
theorem en_128 : entersB Tryz.prog 128 = true := by kernel_rfl
theorem en_129 : entersB Tryz.prog 129 = true := by kernel_rfl
theorem en_130 : entersB Tryz.prog 130 = true := by kernel_rfl
theorem en_131 : entersB Tryz.prog 131 = true := by kernel_rfl
theorem en_151 : entersB Tryz.prog 151 = true := by kernel_rfl
theorem en_157 : entersB Tryz.prog 157 = true := by kernel_rfl
end Go.Proofs.YtnjbfiejgiaibaaGreatDoor
