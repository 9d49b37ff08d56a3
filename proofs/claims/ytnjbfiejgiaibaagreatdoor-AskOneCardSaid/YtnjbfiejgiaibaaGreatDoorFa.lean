/- Of this translation's types the sizes, the fields' places and the zeros; of its functions that they are entered. No condition. Printed by a program of this work. -/
import Derived.Test.YtnjbfiejgiaibaaGreatDoorProg
import Derived.Test.YtnjbfiejgiaibaaGreatDoorAu
import Derived.KernelRfl
namespace Go.Proofs.YtnjbfiejgiaibaaGreatDoor
set_option linter.all false
open Go Go.RowKit
theorem sz_3 : sizeB Tryz.prog 3 = some (false, 1) := by kernel_rfl
theorem zv_3 : zeroV Tryz.prog 3 = some (.int .i64 0) := by kernel_rfl
theorem zc_3 : zeroCs Tryz.prog 3 = some [(.int .i64 0)] := by kernel_rfl
theorem zl_3 : Lits [(.int .i64 0)] [(.v (.int .i64 0))] := .int _ _ (.nil)
theorem sz_4 : sizeB Tryz.prog 4 = some (false, 1) := by kernel_rfl
theorem sz_5 : sizeB Tryz.prog 5 = some (false, 1) := by kernel_rfl
theorem zc_5 : zeroCs Tryz.prog 5 = some [(.int .u8 0)] := by kernel_rfl
theorem zl_5 : Lits [(.int .u8 0)] [(.v (.int .u8 0))] := .int _ _ (.nil)
theorem sz_9 : sizeB Tryz.prog 9 = some (false, 1) := by kernel_rfl
theorem zi_9 : infoB Tryz.prog 9 = some (1, 16) := by kernel_rfl
theorem zc_9 : zeroCs Tryz.prog 9 = some [(.string ByteArray.empty)] := by kernel_rfl
theorem zl_9 : Lits [(.string ByteArray.empty)] [(.v (.str []))] := .str (.nil)
theorem sz_22 : sizeB Tryz.prog 22 = some (false, 1) := by kernel_rfl
theorem sz_24 : sizeB Tryz.prog 24 = some (false, 1) := by kernel_rfl
theorem sz_26 : sizeB Tryz.prog 26 = some (true, 4) := by kernel_rfl
theorem fo_26_0 : fieldOff Tryz.prog 26 0 = some 0 := by kernel_rfl
theorem fo_26_1 : fieldOff Tryz.prog 26 1 = some 1 := by kernel_rfl
theorem fo_26_2 : fieldOff Tryz.prog 26 2 = some 2 := by kernel_rfl
theorem fo_26_3 : fieldOff Tryz.prog 26 3 = some 3 := by kernel_rfl
theorem pl_26 : placesB Tryz.prog 26 = some [(0, 1), (1, 1), (2, 1), (3, 1)] := by kernel_rfl
theorem zi_26 : infoB Tryz.prog 26 = some (4, 72) := by kernel_rfl
theorem zc_26 : zeroCs Tryz.prog 26 = some [(.string ByteArray.empty), (.string ByteArray.empty), (.slice none 0 0), (.string ByteArray.empty)] := by kernel_rfl
theorem zl_26 : Lits [(.string ByteArray.empty), (.string ByteArray.empty), (.slice none 0 0), (.string ByteArray.empty)] [(.v (.str [])), (.v (.str [])), (.v (.lit (.slice none 0 0))), (.v (.str []))] := .str (.str (.lit _ rfl (.str (.nil))))
theorem sz_27 : sizeB Tryz.prog 27 = some (false, 1) := by kernel_rfl
theorem zc_27 : zeroCs Tryz.prog 27 = some [(.int .i64 0)] := by kernel_rfl
theorem zl_27 : Lits [(.int .i64 0)] [(.v (.int .i64 0))] := .int _ _ (.nil)
theorem sz_39 : sizeB Tryz.prog 39 = some (true, 5) := by kernel_rfl
theorem fo_39_0 : fieldOff Tryz.prog 39 0 = some 0 := by kernel_rfl
theorem fo_39_2 : fieldOff Tryz.prog 39 2 = some 2 := by kernel_rfl
theorem fo_39_3 : fieldOff Tryz.prog 39 3 = some 3 := by kernel_rfl
theorem fo_39_4 : fieldOff Tryz.prog 39 4 = some 4 := by kernel_rfl
theorem pl_39 : placesB Tryz.prog 39 = some [(0, 1), (1, 1), (2, 1), (3, 1), (4, 1)] := by kernel_rfl
theorem zc_39 : zeroCs Tryz.prog 39 = some [(.string ByteArray.empty), (.string ByteArray.empty), (.string ByteArray.empty), (.string ByteArray.empty), (.slice none 0 0)] := by kernel_rfl
theorem zl_39 : Lits [(.string ByteArray.empty), (.string ByteArray.empty), (.string ByteArray.empty), (.string ByteArray.empty), (.slice none 0 0)] [(.v (.str [])), (.v (.str [])), (.v (.str [])), (.v (.str [])), (.v (.lit (.slice none 0 0)))] := .str (.str (.str (.str (.lit _ rfl (.nil)))))
theorem sz_46 : sizeB Tryz.prog 46 = some (true, 3) := by kernel_rfl
theorem fo_46_0 : fieldOff Tryz.prog 46 0 = some 0 := by kernel_rfl
theorem fo_46_1 : fieldOff Tryz.prog 46 1 = some 1 := by kernel_rfl
theorem pl_46 : placesB Tryz.prog 46 = some [(0, 1), (1, 1), (2, 1)] := by kernel_rfl
theorem zi_46 : infoB Tryz.prog 46 = some (3, 40) := by kernel_rfl
theorem zc_46 : zeroCs Tryz.prog 46 = some [(.string ByteArray.empty), (.string ByteArray.empty), (.bool false)] := by kernel_rfl
theorem zl_46 : Lits [(.string ByteArray.empty), (.string ByteArray.empty), (.bool false)] [(.v (.str [])), (.v (.str [])), (.v (.bool false))] := .str (.str (.bool _ (.nil)))
theorem sz_49 : sizeB Tryz.prog 49 = some (true, 1) := by kernel_rfl
theorem fo_49_0 : fieldOff Tryz.prog 49 0 = some 0 := by kernel_rfl
theorem pl_49 : placesB Tryz.prog 49 = some [(0, 1)] := by kernel_rfl
theorem zc_49 : zeroCs Tryz.prog 49 = some [(.int .i64 0)] := by kernel_rfl
theorem zl_49 : Lits [(.int .i64 0)] [(.v (.int .i64 0))] := .int _ _ (.nil)
theorem fo_53_0 : fieldOff Tryz.prog 53 0 = some 0 := by kernel_rfl
theorem fo_53_1 : fieldOff Tryz.prog 53 1 = some 1 := by kernel_rfl
theorem pl_53 : placesB Tryz.prog 53 = some [(0, 1), (1, 1)] := by kernel_rfl
theorem zc_53 : zeroCs Tryz.prog 53 = some [(.slice none 0 0), (.int .i64 0)] := by kernel_rfl
theorem zl_53 : Lits [(.slice none 0 0), (.int .i64 0)] [(.v (.lit (.slice none 0 0))), (.v (.int .i64 0))] := .lit _ rfl (.int _ _ (.nil))
theorem sz_68 : sizeB Tryz.prog 68 = some (false, 1) := by kernel_rfl
theorem zc_68 : zeroCs Tryz.prog 68 = some [(.slice none 0 0)] := by kernel_rfl
theorem zl_68 : Lits [(.slice none 0 0)] [(.v (.lit (.slice none 0 0)))] := .lit _ rfl (.nil)
theorem fo_80_0 : fieldOff Tryz.prog 80 0 = some 0 := by kernel_rfl
theorem fo_80_1 : fieldOff Tryz.prog 80 1 = some 1 := by kernel_rfl
theorem zc_80 : zeroCs Tryz.prog 80 = some [(.slice none 0 0), (.int .i64 0), (.int .i8 0)] := by kernel_rfl
theorem zl_80 : Lits [(.slice none 0 0), (.int .i64 0), (.int .i8 0)] [(.v (.lit (.slice none 0 0))), (.v (.int .i64 0)), (.v (.int .i8 0))] := .lit _ rfl (.int _ _ (.int _ _ (.nil)))
theorem sz_96 : sizeB Tryz.prog 96 = some (false, 1) := by kernel_rfl
theorem zc_96 : zeroCs Tryz.prog 96 = some [(.map none)] := by kernel_rfl
theorem zl_96 : Lits [(.map none)] [(.v (.lit (.map none)))] := .lit _ rfl (.nil)
theorem sz_123 : sizeB Tryz.prog 123 = some (true, 256) := by kernel_rfl
theorem sk_46 : structK Tryz.prog 46 = some [.str, .str, .bool] := by kernel_rfl
theorem mx_all : Tryz.prog.follows .mixedOrders = true := by kernel_rfl
theorem en_5 : entersB Tryz.prog 5 = true := by kernel_rfl
theorem en_6 : entersB Tryz.prog 6 = true := by kernel_rfl
theorem en_9 : entersB Tryz.prog 9 = true := by kernel_rfl
theorem en_12 : entersB Tryz.prog 12 = true := by kernel_rfl
theorem en_13 : entersB Tryz.prog 13 = true := by kernel_rfl
theorem en_14 : entersB Tryz.prog 14 = true := by kernel_rfl
theorem en_15 : entersB Tryz.prog 15 = true := by kernel_rfl
theorem en_16 : entersB Tryz.prog 16 = true := by kernel_rfl
theorem en_18 : entersB Tryz.prog 18 = true := by kernel_rfl
theorem en_19 : entersB Tryz.prog 19 = true := by kernel_rfl
theorem en_20 : entersB Tryz.prog 20 = true := by kernel_rfl
theorem en_21 : entersB Tryz.prog 21 = true := by kernel_rfl
theorem en_22 : entersB Tryz.prog 22 = true := by kernel_rfl
theorem en_26 : entersB Tryz.prog 26 = true := by kernel_rfl
theorem en_31 : entersB Tryz.prog 31 = true := by kernel_rfl
theorem en_32 : entersB Tryz.prog 32 = true := by kernel_rfl
theorem en_33 : entersB Tryz.prog 33 = true := by kernel_rfl
theorem en_34 : entersB Tryz.prog 34 = true := by kernel_rfl
theorem en_35 : entersB Tryz.prog 35 = true := by kernel_rfl
theorem en_36 : entersB Tryz.prog 36 = true := by kernel_rfl
theorem en_37 : entersB Tryz.prog 37 = true := by kernel_rfl
theorem en_38 : entersB Tryz.prog 38 = true := by kernel_rfl
theorem en_39 : entersB Tryz.prog 39 = true := by kernel_rfl
theorem en_40 : entersB Tryz.prog 40 = true := by kernel_rfl
theorem en_41 : entersB Tryz.prog 41 = true := by kernel_rfl
theorem en_42 : entersB Tryz.prog 42 = true := by kernel_rfl
theorem en_43 : entersB Tryz.prog 43 = true := by kernel_rfl
theorem en_44 : entersB Tryz.prog 44 = true := by kernel_rfl
theorem en_45 : entersB Tryz.prog 45 = true := by kernel_rfl
theorem en_46 : entersB Tryz.prog 46 = true := by kernel_rfl
theorem en_47 : entersB Tryz.prog 47 = true := by kernel_rfl
theorem en_48 : entersB Tryz.prog 48 = true := by kernel_rfl
theorem en_49 : entersB Tryz.prog 49 = true := by kernel_rfl
theorem en_50 : entersB Tryz.prog 50 = true := by kernel_rfl
theorem en_51 : entersB Tryz.prog 51 = true := by kernel_rfl
theorem en_52 : entersB Tryz.prog 52 = true := by kernel_rfl
theorem en_53 : entersB Tryz.prog 53 = true := by kernel_rfl
theorem en_54 : entersB Tryz.prog 54 = true := by kernel_rfl
theorem en_55 : entersB Tryz.prog 55 = true := by kernel_rfl
theorem en_56 : entersB Tryz.prog 56 = true := by kernel_rfl
theorem en_57 : entersB Tryz.prog 57 = true := by kernel_rfl
theorem en_58 : entersB Tryz.prog 58 = true := by kernel_rfl
theorem en_59 : entersB Tryz.prog 59 = true := by kernel_rfl
theorem en_62 : entersB Tryz.prog 62 = true := by kernel_rfl
theorem en_64 : entersB Tryz.prog 64 = true := by kernel_rfl
theorem en_66 : entersB Tryz.prog 66 = true := by kernel_rfl
theorem en_70 : entersB Tryz.prog 70 = true := by kernel_rfl
theorem en_78 : entersB Tryz.prog 78 = true := by kernel_rfl
theorem en_83 : entersB Tryz.prog 83 = true := by kernel_rfl
theorem en_84 : entersB Tryz.prog 84 = true := by kernel_rfl
theorem en_89 : entersB Tryz.prog 89 = true := by kernel_rfl
theorem en_97 : entersB Tryz.prog 97 = true := by kernel_rfl
theorem en_98 : entersB Tryz.prog 98 = true := by kernel_rfl
theorem en_99 : entersB Tryz.prog 99 = true := by kernel_rfl
theorem en_100 : entersB Tryz.prog 100 = true := by kernel_rfl
theorem en_113 : entersB Tryz.prog 113 = true := by kernel_rfl
end Go.Proofs.YtnjbfiejgiaibaaGreatDoor
