/- Of this translation's types the sizes, the fields' places and the zeros; of its functions that they are entered. No condition. Printed by a program of this work. -/
import Derived.Test.YthflfnehdlpmdaaDoorProg
import Derived.Test.YthflfnehdlpmdaaDoorAu
import Derived.KernelRfl
namespace Go.Proofs.YthflfnehdlpmdaaDoor
set_option linter.all false
open Go Go.RowKit
theorem sz_2 : sizeB Tryd.prog 2 = some (false, 1) := by kernel_rfl
theorem sz_3 : sizeB Tryd.prog 3 = some (false, 1) := by kernel_rfl
theorem zc_3 : zeroCs Tryd.prog 3 = some [(.int .i64 0)] := by kernel_rfl
theorem zl_3 : Lits [(.int .i64 0)] [(.v (.int .i64 0))] := .int _ _ (.nil)
theorem sz_4 : sizeB Tryd.prog 4 = some (false, 1) := by kernel_rfl
theorem sz_5 : sizeB Tryd.prog 5 = some (false, 1) := by kernel_rfl
theorem zi_5 : infoB Tryd.prog 5 = some (1, 1) := by kernel_rfl
theorem zc_5 : zeroCs Tryd.prog 5 = some [(.int .u8 0)] := by kernel_rfl
theorem zl_5 : Lits [(.int .u8 0)] [(.v (.int .u8 0))] := .int _ _ (.nil)
theorem sz_9 : sizeB Tryd.prog 9 = some (false, 1) := by kernel_rfl
theorem zi_9 : infoB Tryd.prog 9 = some (1, 16) := by kernel_rfl
theorem zc_9 : zeroCs Tryd.prog 9 = some [(.string ByteArray.empty)] := by kernel_rfl
theorem zl_9 : Lits [(.string ByteArray.empty)] [(.v (.str []))] := .str (.nil)
theorem sz_24 : sizeB Tryd.prog 24 = some (false, 1) := by kernel_rfl
theorem sz_26 : sizeB Tryd.prog 26 = some (false, 1) := by kernel_rfl
theorem sz_28 : sizeB Tryd.prog 28 = some (true, 5) := by kernel_rfl
theorem fo_28_0 : fieldOff Tryd.prog 28 0 = some 0 := by kernel_rfl
theorem fo_28_1 : fieldOff Tryd.prog 28 1 = some 1 := by kernel_rfl
theorem fo_28_2 : fieldOff Tryd.prog 28 2 = some 2 := by kernel_rfl
theorem fo_28_3 : fieldOff Tryd.prog 28 3 = some 3 := by kernel_rfl
theorem fo_28_4 : fieldOff Tryd.prog 28 4 = some 4 := by kernel_rfl
theorem pl_28 : placesB Tryd.prog 28 = some [(0, 1), (1, 1), (2, 1), (3, 1), (4, 1)] := by kernel_rfl
theorem zc_28 : zeroCs Tryd.prog 28 = some [(.bool false), (.int .i64 0), (.slice none 0 0), (.string ByteArray.empty), (.bool false)] := by kernel_rfl
theorem zl_28 : Lits [(.bool false), (.int .i64 0), (.slice none 0 0), (.string ByteArray.empty), (.bool false)] [(.v (.bool false)), (.v (.int .i64 0)), (.v (.lit (.slice none 0 0))), (.v (.str [])), (.v (.bool false))] := .bool _ (.int _ _ (.lit _ rfl (.str (.bool _ (.nil)))))
theorem sz_29 : sizeB Tryd.prog 29 = some (false, 1) := by kernel_rfl
theorem zc_29 : zeroCs Tryd.prog 29 = some [(.int .i64 0)] := by kernel_rfl
theorem zl_29 : Lits [(.int .i64 0)] [(.v (.int .i64 0))] := .int _ _ (.nil)
theorem sz_32 : sizeB Tryd.prog 32 = some (false, 1) := by kernel_rfl
theorem sz_35 : sizeB Tryd.prog 35 = some (false, 1) := by kernel_rfl
theorem zc_35 : zeroCs Tryd.prog 35 = some [(.slice none 0 0)] := by kernel_rfl
theorem zl_35 : Lits [(.slice none 0 0)] [(.v (.lit (.slice none 0 0)))] := .lit _ rfl (.nil)
theorem fo_45_0 : fieldOff Tryd.prog 45 0 = some 0 := by kernel_rfl
theorem fo_45_1 : fieldOff Tryd.prog 45 1 = some 1 := by kernel_rfl
theorem fo_45_2 : fieldOff Tryd.prog 45 2 = some 2 := by kernel_rfl
theorem sz_47 : sizeB Tryd.prog 47 = some (true, 3) := by kernel_rfl
theorem fo_47_0 : fieldOff Tryd.prog 47 0 = some 0 := by kernel_rfl
theorem fo_47_1 : fieldOff Tryd.prog 47 1 = some 1 := by kernel_rfl
theorem pl_47 : placesB Tryd.prog 47 = some [(0, 1), (1, 1), (2, 1)] := by kernel_rfl
theorem zi_47 : infoB Tryd.prog 47 = some (3, 40) := by kernel_rfl
theorem zc_47 : zeroCs Tryd.prog 47 = some [(.string ByteArray.empty), (.string ByteArray.empty), (.bool false)] := by kernel_rfl
theorem zl_47 : Lits [(.string ByteArray.empty), (.string ByteArray.empty), (.bool false)] [(.v (.str [])), (.v (.str [])), (.v (.bool false))] := .str (.str (.bool _ (.nil)))
theorem sz_52 : sizeB Tryd.prog 52 = some (false, 1) := by kernel_rfl
theorem fo_54_0 : fieldOff Tryd.prog 54 0 = some 0 := by kernel_rfl
theorem fo_54_1 : fieldOff Tryd.prog 54 1 = some 1 := by kernel_rfl
theorem fo_54_2 : fieldOff Tryd.prog 54 2 = some 2 := by kernel_rfl
theorem fo_54_3 : fieldOff Tryd.prog 54 3 = some 3 := by kernel_rfl
theorem fo_54_4 : fieldOff Tryd.prog 54 4 = some 4 := by kernel_rfl
theorem fo_54_5 : fieldOff Tryd.prog 54 5 = some 5 := by kernel_rfl
theorem fo_54_6 : fieldOff Tryd.prog 54 6 = some 6 := by kernel_rfl
theorem fo_54_7 : fieldOff Tryd.prog 54 7 = some 7 := by kernel_rfl
theorem fo_54_8 : fieldOff Tryd.prog 54 8 = some 8 := by kernel_rfl
theorem fo_54_9 : fieldOff Tryd.prog 54 9 = some 9 := by kernel_rfl
theorem fo_54_10 : fieldOff Tryd.prog 54 10 = some 10 := by kernel_rfl
theorem pl_54 : placesB Tryd.prog 54 = some [(0, 1), (1, 1), (2, 1), (3, 1), (4, 1), (5, 1), (6, 1), (7, 1), (8, 1), (9, 1), (10, 1)] := by kernel_rfl
theorem zc_54 : zeroCs Tryd.prog 54 = some [(.bool false), .nilFunc, (.slice none 0 0), (.int .i64 0), (.bool false), (.slice none 0 0), (.int .i64 0), (.int .i64 0), (.bool false), (.bool false), (.bool false)] := by kernel_rfl
theorem zl_54 : Lits [(.bool false), .nilFunc, (.slice none 0 0), (.int .i64 0), (.bool false), (.slice none 0 0), (.int .i64 0), (.int .i64 0), (.bool false), (.bool false), (.bool false)] [(.v (.bool false)), (.v (.lit .nilFunc)), (.v (.lit (.slice none 0 0))), (.v (.int .i64 0)), (.v (.bool false)), (.v (.lit (.slice none 0 0))), (.v (.int .i64 0)), (.v (.int .i64 0)), (.v (.bool false)), (.v (.bool false)), (.v (.bool false))] := .bool _ (.lit _ rfl (.lit _ rfl (.int _ _ (.bool _ (.lit _ rfl (.int _ _ (.int _ _ (.bool _ (.bool _ (.bool _ (.nil)))))))))))
theorem sz_56 : sizeB Tryd.prog 56 = some (true, 1) := by kernel_rfl
theorem fo_56_0 : fieldOff Tryd.prog 56 0 = some 0 := by kernel_rfl
theorem pl_56 : placesB Tryd.prog 56 = some [(0, 1)] := by kernel_rfl
theorem zc_56 : zeroCs Tryd.prog 56 = some [(.int .i64 0)] := by kernel_rfl
theorem zl_56 : Lits [(.int .i64 0)] [(.v (.int .i64 0))] := .int _ _ (.nil)
theorem fo_60_0 : fieldOff Tryd.prog 60 0 = some 0 := by kernel_rfl
theorem fo_60_1 : fieldOff Tryd.prog 60 1 = some 1 := by kernel_rfl
theorem fo_60_2 : fieldOff Tryd.prog 60 2 = some 2 := by kernel_rfl
theorem fo_60_3 : fieldOff Tryd.prog 60 3 = some 7 := by kernel_rfl
theorem pl_60 : placesB Tryd.prog 60 = some [(0, 1), (1, 1), (2, 5), (7, 1)] := by kernel_rfl
theorem zc_60 : zeroCs Tryd.prog 60 = some [(.slice none 0 0), (.int .i64 0), (.bool false), (.int .i64 0), (.slice none 0 0), (.string ByteArray.empty), (.bool false), (.bool false)] := by kernel_rfl
theorem zl_60 : Lits [(.slice none 0 0), (.int .i64 0), (.bool false), (.int .i64 0), (.slice none 0 0), (.string ByteArray.empty), (.bool false), (.bool false)] [(.v (.lit (.slice none 0 0))), (.v (.int .i64 0)), (.v (.bool false)), (.v (.int .i64 0)), (.v (.lit (.slice none 0 0))), (.v (.str [])), (.v (.bool false)), (.v (.bool false))] := .lit _ rfl (.int _ _ (.bool _ (.int _ _ (.lit _ rfl (.str (.bool _ (.bool _ (.nil))))))))
theorem sk_47 : structK Tryd.prog 47 = some [.str, .str, .bool] := by kernel_rfl
theorem mx_all : Tryd.prog.follows .mixedOrders = true := by kernel_rfl
theorem en_7 : entersB Tryd.prog 7 = true := by kernel_rfl
theorem en_9 : entersB Tryd.prog 9 = true := by kernel_rfl
theorem en_10 : entersB Tryd.prog 10 = true := by kernel_rfl
theorem en_12 : entersB Tryd.prog 12 = true := by kernel_rfl
theorem en_13 : entersB Tryd.prog 13 = true := by kernel_rfl
theorem en_17 : entersB Tryd.prog 17 = true := by kernel_rfl
theorem en_22 : entersB Tryd.prog 22 = true := by kernel_rfl
theorem en_23 : entersB Tryd.prog 23 = true := by kernel_rfl
theorem en_24 : entersB Tryd.prog 24 = true := by kernel_rfl
theorem en_25 : entersB Tryd.prog 25 = true := by kernel_rfl
theorem en_26 : entersB Tryd.prog 26 = true := by kernel_rfl
theorem en_27 : entersB Tryd.prog 27 = true := by kernel_rfl
theorem en_28 : entersB Tryd.prog 28 = true := by kernel_rfl
theorem en_30 : entersB Tryd.prog 30 = true := by kernel_rfl
theorem en_31 : entersB Tryd.prog 31 = true := by kernel_rfl
theorem en_35 : entersB Tryd.prog 35 = true := by kernel_rfl
theorem en_36 : entersB Tryd.prog 36 = true := by kernel_rfl
theorem en_37 : entersB Tryd.prog 37 = true := by kernel_rfl
theorem en_38 : entersB Tryd.prog 38 = true := by kernel_rfl
theorem en_39 : entersB Tryd.prog 39 = true := by kernel_rfl
theorem en_49 : entersB Tryd.prog 49 = true := by kernel_rfl
theorem en_50 : entersB Tryd.prog 50 = true := by kernel_rfl
theorem en_51 : entersB Tryd.prog 51 = true := by kernel_rfl
theorem en_55 : entersB Tryd.prog 55 = true := by kernel_rfl
theorem en_65 : entersB Tryd.prog 65 = true := by kernel_rfl
theorem en_68 : entersB Tryd.prog 68 = true := by kernel_rfl
end Go.Proofs.YthflfnehdlpmdaaDoor
