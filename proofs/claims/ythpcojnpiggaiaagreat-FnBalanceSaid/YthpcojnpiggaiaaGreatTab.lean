/- The types of the translation, as our calculus tells them. -/
import Derived.Test.YthpcojnpiggaiaaGreatEA
import Derived.Test.YthpcojnpiggaiaaGreatProg
import Derived.KernelRfl
namespace Go.Proofs.YthpcojnpiggaiaaGreat
open Go
def tabP0 : Tab := fun t => match t with
  | 1 => some ⟨.func, 1, .nilFunc⟩
  | 2 => some ⟨.int .i64, 1, .int .i64 0⟩
  | 3 => some ⟨.int .i64, 1, .int .i64 0⟩
  | 4 => some ⟨.bool, 1, .bool false⟩
  | 5 => some ⟨.int .u8, 1, .int .u8 0⟩
  | 6 => some ⟨.int .u8, 1, .int .u8 0⟩
  | 7 => some ⟨.strct [(0, 1, false), (1, 1, false), (2, 1, false), (3, 1, false)], 4, .agg #[.int .i64 0, .int .i64 0, .bool false, .int .u8 0]⟩
  | 8 => some ⟨.strct [(0, 1, false), (1, 1, false), (2, 1, false), (3, 1, false)], 4, .agg #[.int .i64 0, .int .i64 0, .bool false, .int .u8 0]⟩
  | 9 => some ⟨.str, 1, str []⟩
  | 10 => some ⟨.str, 1, str []⟩
  | 11 => some ⟨.str, 1, str []⟩
  | 12 => some ⟨.int .u64, 1, .int .u64 0⟩
  | 13 => some ⟨.strct [(0, 1, false), (1, 1, false)], 2, .agg #[str [], .int .u64 0]⟩
  | 14 => some ⟨.strct [(0, 1, false), (1, 1, false)], 2, .agg #[str [], .int .u64 0]⟩
  | 15 => some ⟨.flat, 1, .pointer none⟩
  | 16 => some ⟨.flat, 1, .pointer none⟩
  | 17 => some ⟨.flat, 1, .pointer none⟩
  | 18 => some ⟨.strct [(0, 1, false)], 1, .agg #[.pointer none]⟩
  | 19 => some ⟨.strct [(0, 1, false)], 1, .agg #[.pointer none]⟩
  | 20 => some ⟨.iface, 1, .nilIface⟩
  | 21 => some ⟨.int .i32, 1, .int .i32 0⟩
  | 22 => some ⟨.slc 5 1 1 (.int .u8 0), 1, .slice none 0 0⟩
  | 23 => some ⟨.func, 1, .nilFunc⟩
  | 25 => some ⟨.func, 1, .nilFunc⟩
  | 27 => some ⟨.func, 1, .nilFunc⟩
  | 29 => some ⟨.func, 1, .nilFunc⟩
  | 30 => some ⟨.slc 2 1 8 (.int .i64 0), 1, .slice none 0 0⟩
  | 31 => some ⟨.func, 1, .nilFunc⟩
  | 32 => some ⟨.slc 9 1 16 (str []), 1, .slice none 0 0⟩
  | 34 => some ⟨.func, 1, .nilFunc⟩
  | 35 => some ⟨.func, 1, .nilFunc⟩
  | 37 => some ⟨.func, 1, .nilFunc⟩
  | 38 => some ⟨.func, 1, .nilFunc⟩
  | 39 => some ⟨.slc 30 1 24 (.slice none 0 0), 1, .slice none 0 0⟩
  | 41 => some ⟨.func, 1, .nilFunc⟩
  | 42 => some ⟨.func, 1, .nilFunc⟩
  | 43 => some ⟨.func, 1, .nilFunc⟩
  | 44 => some ⟨.func, 1, .nilFunc⟩
  | 45 => some ⟨.func, 1, .nilFunc⟩
  | 46 => some ⟨.func, 1, .nilFunc⟩
  | 47 => some ⟨.func, 1, .nilFunc⟩
  | 49 => some ⟨.func, 1, .nilFunc⟩
  | 50 => some ⟨.func, 1, .nilFunc⟩
  | 52 => some ⟨.func, 1, .nilFunc⟩
  | 53 => some ⟨.func, 1, .nilFunc⟩
  | 54 => some ⟨.func, 1, .nilFunc⟩
  | 55 => some ⟨.flat, 1, .pointer none⟩
  | 56 => some ⟨.func, 1, .nilFunc⟩
  | 57 => some ⟨.func, 1, .nilFunc⟩
  | 58 => some ⟨.func, 1, .nilFunc⟩
  | 59 => some ⟨.func, 1, .nilFunc⟩
  | 60 => some ⟨.func, 1, .nilFunc⟩
  | 61 => some ⟨.func, 1, .nilFunc⟩
  | 62 => some ⟨.func, 1, .nilFunc⟩
  | 63 => some ⟨.func, 1, .nilFunc⟩
  | 64 => some ⟨.func, 1, .nilFunc⟩
  | 65 => some ⟨.func, 1, .nilFunc⟩
  | 66 => some ⟨.func, 1, .nilFunc⟩
  | 67 => some ⟨.func, 1, .nilFunc⟩
  | 68 => some ⟨.func, 1, .nilFunc⟩
  | _ => none
def tabP1 : Tab := fun t => match t with
  | 69 => some ⟨.func, 1, .nilFunc⟩
  | 70 => some ⟨.func, 1, .nilFunc⟩
  | 71 => some ⟨.func, 1, .nilFunc⟩
  | 72 => some ⟨.func, 1, .nilFunc⟩
  | 73 => some ⟨.func, 1, .nilFunc⟩
  | 74 => some ⟨.func, 1, .nilFunc⟩
  | 75 => some ⟨.func, 1, .nilFunc⟩
  | 76 => some ⟨.func, 1, .nilFunc⟩
  | 77 => some ⟨.func, 1, .nilFunc⟩
  | 78 => some ⟨.func, 1, .nilFunc⟩
  | 79 => some ⟨.func, 1, .nilFunc⟩
  | 80 => some ⟨.func, 1, .nilFunc⟩
  | 81 => some ⟨.func, 1, .nilFunc⟩
  | 82 => some ⟨.func, 1, .nilFunc⟩
  | 83 => some ⟨.func, 1, .nilFunc⟩
  | 84 => some ⟨.func, 1, .nilFunc⟩
  | 85 => some ⟨.func, 1, .nilFunc⟩
  | 86 => some ⟨.func, 1, .nilFunc⟩
  | 87 => some ⟨.func, 1, .nilFunc⟩
  | 89 => some ⟨.func, 1, .nilFunc⟩
  | 90 => some ⟨.func, 1, .nilFunc⟩
  | 91 => some ⟨.func, 1, .nilFunc⟩
  | 92 => some ⟨.slc 4 1 1 (.bool false), 1, .slice none 0 0⟩
  | 93 => some ⟨.int .u64, 1, .int .u64 0⟩
  | 94 => some ⟨.strct [(0, 1, false), (1, 1, false), (2, 1, false)], 3, .agg #[.slice none 0 0, .int .i64 0, .int .u64 0]⟩
  | 95 => some ⟨.strct [(0, 1, false), (1, 1, false), (2, 1, false)], 3, .agg #[.slice none 0 0, .int .i64 0, .int .u64 0]⟩
  | 96 => some ⟨.func, 1, .nilFunc⟩
  | 97 => some ⟨.func, 1, .nilFunc⟩
  | 98 => some ⟨.int .u64, 1, .int .u64 0⟩
  | 99 => some ⟨.func, 1, .nilFunc⟩
  | 100 => some ⟨.func, 1, .nilFunc⟩
  | 101 => some ⟨.func, 1, .nilFunc⟩
  | 102 => some ⟨.func, 1, .nilFunc⟩
  | 103 => some ⟨.func, 1, .nilFunc⟩
  | 104 => some ⟨.func, 1, .nilFunc⟩
  | 105 => some ⟨.func, 1, .nilFunc⟩
  | 106 => some ⟨.func, 1, .nilFunc⟩
  | 107 => some ⟨.func, 1, .nilFunc⟩
  | 108 => some ⟨.func, 1, .nilFunc⟩
  | 109 => some ⟨.func, 1, .nilFunc⟩
  | 110 => some ⟨.func, 1, .nilFunc⟩
  | 111 => some ⟨.func, 1, .nilFunc⟩
  | 112 => some ⟨.func, 1, .nilFunc⟩
  | 113 => some ⟨.int .i64, 1, .int .i64 0⟩
  | 115 => some ⟨.func, 1, .nilFunc⟩
  | 116 => some ⟨.func, 1, .nilFunc⟩
  | 117 => some ⟨.func, 1, .nilFunc⟩
  | 118 => some ⟨.func, 1, .nilFunc⟩
  | 120 => some ⟨.func, 1, .nilFunc⟩
  | 121 => some ⟨.func, 1, .nilFunc⟩
  | 122 => some ⟨.int .u32, 1, .int .u32 0⟩
  | 123 => some ⟨.func, 1, .nilFunc⟩
  | 124 => some ⟨.func, 1, .nilFunc⟩
  | 125 => some ⟨.func, 1, .nilFunc⟩
  | 126 => some ⟨.func, 1, .nilFunc⟩
  | 127 => some ⟨.func, 1, .nilFunc⟩
  | 128 => some ⟨.func, 1, .nilFunc⟩
  | 129 => some ⟨.func, 1, .nilFunc⟩
  | 130 => some ⟨.func, 1, .nilFunc⟩
  | 131 => some ⟨.func, 1, .nilFunc⟩
  | _ => none
def tabP2 : Tab := fun t => match t with
  | 132 => some ⟨.func, 1, .nilFunc⟩
  | 133 => some ⟨.func, 1, .nilFunc⟩
  | 134 => some ⟨.func, 1, .nilFunc⟩
  | 135 => some ⟨.func, 1, .nilFunc⟩
  | 136 => some ⟨.int .u64, 1, .int .u64 0⟩
  | 137 => some ⟨.func, 1, .nilFunc⟩
  | 138 => some ⟨.func, 1, .nilFunc⟩
  | 139 => some ⟨.func, 1, .nilFunc⟩
  | 140 => some ⟨.flat, 1, .pointer none⟩
  | 141 => some ⟨.func, 1, .nilFunc⟩
  | 142 => some ⟨.func, 1, .nilFunc⟩
  | 143 => some ⟨.func, 1, .nilFunc⟩
  | 144 => some ⟨.func, 1, .nilFunc⟩
  | 145 => some ⟨.func, 1, .nilFunc⟩
  | 146 => some ⟨.func, 1, .nilFunc⟩
  | 147 => some ⟨.flat, 1, .pointer none⟩
  | 149 => some ⟨.func, 1, .nilFunc⟩
  | 150 => some ⟨.func, 1, .nilFunc⟩
  | 151 => some ⟨.func, 1, .nilFunc⟩
  | 152 => some ⟨.func, 1, .nilFunc⟩
  | 153 => some ⟨.strct [(0, 1, false), (1, 1, false), (2, 1, false), (3, 1, false)], 4, .agg #[.pointer none, .pointer none, .pointer none, str []]⟩
  | 154 => some ⟨.strct [(0, 1, false), (1, 1, false), (2, 1, false), (3, 1, false)], 4, .agg #[.pointer none, .pointer none, .pointer none, str []]⟩
  | 155 => some ⟨.arr 0 1 false, 0, .agg #[]⟩
  | 156 => some ⟨.strct [(0, 0, true)], 0, .agg #[]⟩
  | 157 => some ⟨.strct [(0, 0, true)], 0, .agg #[]⟩
  | 158 => some ⟨.func, 1, .nilFunc⟩
  | 159 => some ⟨.int .u8, 1, .int .u8 0⟩
  | 160 => some ⟨.int .u8, 1, .int .u8 0⟩
  | 161 => some ⟨.func, 1, .nilFunc⟩
  | 162 => some ⟨.flat, 1, .pointer none⟩
  | 163 => some ⟨.int .i32, 1, .int .i32 0⟩
  | 164 => some ⟨.int .i32, 1, .int .i32 0⟩
  | 165 => some ⟨.strct [(0, 1, false), (1, 1, false), (2, 1, false), (3, 1, false), (4, 1, false), (5, 1, false), (6, 1, false), (7, 1, false), (8, 1, false), (9, 1, false), (10, 1, false)], 11, .agg #[.int .u64 0, .int .u64 0, .int .u32 0, .int .u8 0, .int .u8 0, .int .u8 0, .int .u8 0, .nilFunc, .pointer none, .int .i32 0, .int .i32 0]⟩
  | 166 => some ⟨.strct [(0, 1, false), (1, 1, false), (2, 1, false), (3, 1, false), (4, 1, false), (5, 1, false), (6, 1, false), (7, 1, false), (8, 1, false), (9, 1, false), (10, 1, false)], 11, .agg #[.int .u64 0, .int .u64 0, .int .u32 0, .int .u8 0, .int .u8 0, .int .u8 0, .int .u8 0, .nilFunc, .pointer none, .int .i32 0, .int .i32 0]⟩
  | _ => none
def tab : Tab := fun t => if t < 69 then tabP0 t else if t < 132 then tabP1 t else tabP2 t
@[simp] theorem tab1 : tab 1 = some ⟨.func, 1, .nilFunc⟩ := rfl
@[simp] theorem tab2 : tab 2 = some ⟨.int .i64, 1, .int .i64 0⟩ := rfl
@[simp] theorem tab3 : tab 3 = some ⟨.int .i64, 1, .int .i64 0⟩ := rfl
@[simp] theorem tab4 : tab 4 = some ⟨.bool, 1, .bool false⟩ := rfl
@[simp] theorem tab5 : tab 5 = some ⟨.int .u8, 1, .int .u8 0⟩ := rfl
@[simp] theorem tab6 : tab 6 = some ⟨.int .u8, 1, .int .u8 0⟩ := rfl
@[simp] theorem tab7 : tab 7 = some ⟨.strct [(0, 1, false), (1, 1, false), (2, 1, false), (3, 1, false)], 4, .agg #[.int .i64 0, .int .i64 0, .bool false, .int .u8 0]⟩ := rfl
@[simp] theorem tab8 : tab 8 = some ⟨.strct [(0, 1, false), (1, 1, false), (2, 1, false), (3, 1, false)], 4, .agg #[.int .i64 0, .int .i64 0, .bool false, .int .u8 0]⟩ := rfl
@[simp] theorem tab9 : tab 9 = some ⟨.str, 1, str []⟩ := rfl
@[simp] theorem tab10 : tab 10 = some ⟨.str, 1, str []⟩ := rfl
@[simp] theorem tab11 : tab 11 = some ⟨.str, 1, str []⟩ := rfl
@[simp] theorem tab12 : tab 12 = some ⟨.int .u64, 1, .int .u64 0⟩ := rfl
@[simp] theorem tab13 : tab 13 = some ⟨.strct [(0, 1, false), (1, 1, false)], 2, .agg #[str [], .int .u64 0]⟩ := rfl
@[simp] theorem tab14 : tab 14 = some ⟨.strct [(0, 1, false), (1, 1, false)], 2, .agg #[str [], .int .u64 0]⟩ := rfl
@[simp] theorem tab15 : tab 15 = some ⟨.flat, 1, .pointer none⟩ := rfl
@[simp] theorem tab16 : tab 16 = some ⟨.flat, 1, .pointer none⟩ := rfl
@[simp] theorem tab17 : tab 17 = some ⟨.flat, 1, .pointer none⟩ := rfl
@[simp] theorem tab18 : tab 18 = some ⟨.strct [(0, 1, false)], 1, .agg #[.pointer none]⟩ := rfl
@[simp] theorem tab19 : tab 19 = some ⟨.strct [(0, 1, false)], 1, .agg #[.pointer none]⟩ := rfl
@[simp] theorem tab20 : tab 20 = some ⟨.iface, 1, .nilIface⟩ := rfl
@[simp] theorem tab21 : tab 21 = some ⟨.int .i32, 1, .int .i32 0⟩ := rfl
@[simp] theorem tab22 : tab 22 = some ⟨.slc 5 1 1 (.int .u8 0), 1, .slice none 0 0⟩ := rfl
@[simp] theorem tab23 : tab 23 = some ⟨.func, 1, .nilFunc⟩ := rfl
@[simp] theorem tab25 : tab 25 = some ⟨.func, 1, .nilFunc⟩ := rfl
@[simp] theorem tab27 : tab 27 = some ⟨.func, 1, .nilFunc⟩ := rfl
@[simp] theorem tab29 : tab 29 = some ⟨.func, 1, .nilFunc⟩ := rfl
@[simp] theorem tab30 : tab 30 = some ⟨.slc 2 1 8 (.int .i64 0), 1, .slice none 0 0⟩ := rfl
@[simp] theorem tab31 : tab 31 = some ⟨.func, 1, .nilFunc⟩ := rfl
@[simp] theorem tab32 : tab 32 = some ⟨.slc 9 1 16 (str []), 1, .slice none 0 0⟩ := rfl
@[simp] theorem tab34 : tab 34 = some ⟨.func, 1, .nilFunc⟩ := rfl
@[simp] theorem tab35 : tab 35 = some ⟨.func, 1, .nilFunc⟩ := rfl
@[simp] theorem tab37 : tab 37 = some ⟨.func, 1, .nilFunc⟩ := rfl
@[simp] theorem tab38 : tab 38 = some ⟨.func, 1, .nilFunc⟩ := rfl
@[simp] theorem tab39 : tab 39 = some ⟨.slc 30 1 24 (.slice none 0 0), 1, .slice none 0 0⟩ := rfl
@[simp] theorem tab41 : tab 41 = some ⟨.func, 1, .nilFunc⟩ := rfl
@[simp] theorem tab42 : tab 42 = some ⟨.func, 1, .nilFunc⟩ := rfl
@[simp] theorem tab43 : tab 43 = some ⟨.func, 1, .nilFunc⟩ := rfl
@[simp] theorem tab44 : tab 44 = some ⟨.func, 1, .nilFunc⟩ := rfl
@[simp] theorem tab45 : tab 45 = some ⟨.func, 1, .nilFunc⟩ := rfl
@[simp] theorem tab46 : tab 46 = some ⟨.func, 1, .nilFunc⟩ := rfl
@[simp] theorem tab47 : tab 47 = some ⟨.func, 1, .nilFunc⟩ := rfl
@[simp] theorem tab49 : tab 49 = some ⟨.func, 1, .nilFunc⟩ := rfl
@[simp] theorem tab50 : tab 50 = some ⟨.func, 1, .nilFunc⟩ := rfl
@[simp] theorem tab52 : tab 52 = some ⟨.func, 1, .nilFunc⟩ := rfl
@[simp] theorem tab53 : tab 53 = some ⟨.func, 1, .nilFunc⟩ := rfl
@[simp] theorem tab54 : tab 54 = some ⟨.func, 1, .nilFunc⟩ := rfl
@[simp] theorem tab55 : tab 55 = some ⟨.flat, 1, .pointer none⟩ := rfl
@[simp] theorem tab56 : tab 56 = some ⟨.func, 1, .nilFunc⟩ := rfl
@[simp] theorem tab57 : tab 57 = some ⟨.func, 1, .nilFunc⟩ := rfl
@[simp] theorem tab58 : tab 58 = some ⟨.func, 1, .nilFunc⟩ := rfl
@[simp] theorem tab59 : tab 59 = some ⟨.func, 1, .nilFunc⟩ := rfl
@[simp] theorem tab60 : tab 60 = some ⟨.func, 1, .nilFunc⟩ := rfl
@[simp] theorem tab61 : tab 61 = some ⟨.func, 1, .nilFunc⟩ := rfl
@[simp] theorem tab62 : tab 62 = some ⟨.func, 1, .nilFunc⟩ := rfl
@[simp] theorem tab63 : tab 63 = some ⟨.func, 1, .nilFunc⟩ := rfl
@[simp] theorem tab64 : tab 64 = some ⟨.func, 1, .nilFunc⟩ := rfl
@[simp] theorem tab65 : tab 65 = some ⟨.func, 1, .nilFunc⟩ := rfl
@[simp] theorem tab66 : tab 66 = some ⟨.func, 1, .nilFunc⟩ := rfl
@[simp] theorem tab67 : tab 67 = some ⟨.func, 1, .nilFunc⟩ := rfl
@[simp] theorem tab68 : tab 68 = some ⟨.func, 1, .nilFunc⟩ := rfl
@[simp] theorem tab69 : tab 69 = some ⟨.func, 1, .nilFunc⟩ := rfl
@[simp] theorem tab70 : tab 70 = some ⟨.func, 1, .nilFunc⟩ := rfl
@[simp] theorem tab71 : tab 71 = some ⟨.func, 1, .nilFunc⟩ := rfl
@[simp] theorem tab72 : tab 72 = some ⟨.func, 1, .nilFunc⟩ := rfl
@[simp] theorem tab73 : tab 73 = some ⟨.func, 1, .nilFunc⟩ := rfl
@[simp] theorem tab74 : tab 74 = some ⟨.func, 1, .nilFunc⟩ := rfl
@[simp] theorem tab75 : tab 75 = some ⟨.func, 1, .nilFunc⟩ := rfl
@[simp] theorem tab76 : tab 76 = some ⟨.func, 1, .nilFunc⟩ := rfl
@[simp] theorem tab77 : tab 77 = some ⟨.func, 1, .nilFunc⟩ := rfl
@[simp] theorem tab78 : tab 78 = some ⟨.func, 1, .nilFunc⟩ := rfl
@[simp] theorem tab79 : tab 79 = some ⟨.func, 1, .nilFunc⟩ := rfl
@[simp] theorem tab80 : tab 80 = some ⟨.func, 1, .nilFunc⟩ := rfl
@[simp] theorem tab81 : tab 81 = some ⟨.func, 1, .nilFunc⟩ := rfl
@[simp] theorem tab82 : tab 82 = some ⟨.func, 1, .nilFunc⟩ := rfl
@[simp] theorem tab83 : tab 83 = some ⟨.func, 1, .nilFunc⟩ := rfl
@[simp] theorem tab84 : tab 84 = some ⟨.func, 1, .nilFunc⟩ := rfl
@[simp] theorem tab85 : tab 85 = some ⟨.func, 1, .nilFunc⟩ := rfl
@[simp] theorem tab86 : tab 86 = some ⟨.func, 1, .nilFunc⟩ := rfl
@[simp] theorem tab87 : tab 87 = some ⟨.func, 1, .nilFunc⟩ := rfl
@[simp] theorem tab89 : tab 89 = some ⟨.func, 1, .nilFunc⟩ := rfl
@[simp] theorem tab90 : tab 90 = some ⟨.func, 1, .nilFunc⟩ := rfl
@[simp] theorem tab91 : tab 91 = some ⟨.func, 1, .nilFunc⟩ := rfl
@[simp] theorem tab92 : tab 92 = some ⟨.slc 4 1 1 (.bool false), 1, .slice none 0 0⟩ := rfl
@[simp] theorem tab93 : tab 93 = some ⟨.int .u64, 1, .int .u64 0⟩ := rfl
@[simp] theorem tab94 : tab 94 = some ⟨.strct [(0, 1, false), (1, 1, false), (2, 1, false)], 3, .agg #[.slice none 0 0, .int .i64 0, .int .u64 0]⟩ := rfl
@[simp] theorem tab95 : tab 95 = some ⟨.strct [(0, 1, false), (1, 1, false), (2, 1, false)], 3, .agg #[.slice none 0 0, .int .i64 0, .int .u64 0]⟩ := rfl
@[simp] theorem tab96 : tab 96 = some ⟨.func, 1, .nilFunc⟩ := rfl
@[simp] theorem tab97 : tab 97 = some ⟨.func, 1, .nilFunc⟩ := rfl
@[simp] theorem tab98 : tab 98 = some ⟨.int .u64, 1, .int .u64 0⟩ := rfl
@[simp] theorem tab99 : tab 99 = some ⟨.func, 1, .nilFunc⟩ := rfl
@[simp] theorem tab100 : tab 100 = some ⟨.func, 1, .nilFunc⟩ := rfl
@[simp] theorem tab101 : tab 101 = some ⟨.func, 1, .nilFunc⟩ := rfl
@[simp] theorem tab102 : tab 102 = some ⟨.func, 1, .nilFunc⟩ := rfl
@[simp] theorem tab103 : tab 103 = some ⟨.func, 1, .nilFunc⟩ := rfl
@[simp] theorem tab104 : tab 104 = some ⟨.func, 1, .nilFunc⟩ := rfl
@[simp] theorem tab105 : tab 105 = some ⟨.func, 1, .nilFunc⟩ := rfl
@[simp] theorem tab106 : tab 106 = some ⟨.func, 1, .nilFunc⟩ := rfl
@[simp] theorem tab107 : tab 107 = some ⟨.func, 1, .nilFunc⟩ := rfl
@[simp] theorem tab108 : tab 108 = some ⟨.func, 1, .nilFunc⟩ := rfl
@[simp] theorem tab109 : tab 109 = some ⟨.func, 1, .nilFunc⟩ := rfl
@[simp] theorem tab110 : tab 110 = some ⟨.func, 1, .nilFunc⟩ := rfl
@[simp] theorem tab111 : tab 111 = some ⟨.func, 1, .nilFunc⟩ := rfl
@[simp] theorem tab112 : tab 112 = some ⟨.func, 1, .nilFunc⟩ := rfl
@[simp] theorem tab113 : tab 113 = some ⟨.int .i64, 1, .int .i64 0⟩ := rfl
@[simp] theorem tab115 : tab 115 = some ⟨.func, 1, .nilFunc⟩ := rfl
@[simp] theorem tab116 : tab 116 = some ⟨.func, 1, .nilFunc⟩ := rfl
@[simp] theorem tab117 : tab 117 = some ⟨.func, 1, .nilFunc⟩ := rfl
@[simp] theorem tab118 : tab 118 = some ⟨.func, 1, .nilFunc⟩ := rfl
@[simp] theorem tab120 : tab 120 = some ⟨.func, 1, .nilFunc⟩ := rfl
@[simp] theorem tab121 : tab 121 = some ⟨.func, 1, .nilFunc⟩ := rfl
@[simp] theorem tab122 : tab 122 = some ⟨.int .u32, 1, .int .u32 0⟩ := rfl
@[simp] theorem tab123 : tab 123 = some ⟨.func, 1, .nilFunc⟩ := rfl
@[simp] theorem tab124 : tab 124 = some ⟨.func, 1, .nilFunc⟩ := rfl
@[simp] theorem tab125 : tab 125 = some ⟨.func, 1, .nilFunc⟩ := rfl
@[simp] theorem tab126 : tab 126 = some ⟨.func, 1, .nilFunc⟩ := rfl
@[simp] theorem tab127 : tab 127 = some ⟨.func, 1, .nilFunc⟩ := rfl
@[simp] theorem tab128 : tab 128 = some ⟨.func, 1, .nilFunc⟩ := rfl
@[simp] theorem tab129 : tab 129 = some ⟨.func, 1, .nilFunc⟩ := rfl
@[simp] theorem tab130 : tab 130 = some ⟨.func, 1, .nilFunc⟩ := rfl
@[simp] theorem tab131 : tab 131 = some ⟨.func, 1, .nilFunc⟩ := rfl
@[simp] theorem tab132 : tab 132 = some ⟨.func, 1, .nilFunc⟩ := rfl
@[simp] theorem tab133 : tab 133 = some ⟨.func, 1, .nilFunc⟩ := rfl
@[simp] theorem tab134 : tab 134 = some ⟨.func, 1, .nilFunc⟩ := rfl
@[simp] theorem tab135 : tab 135 = some ⟨.func, 1, .nilFunc⟩ := rfl
@[simp] theorem tab136 : tab 136 = some ⟨.int .u64, 1, .int .u64 0⟩ := rfl
@[simp] theorem tab137 : tab 137 = some ⟨.func, 1, .nilFunc⟩ := rfl
@[simp] theorem tab138 : tab 138 = some ⟨.func, 1, .nilFunc⟩ := rfl
@[simp] theorem tab139 : tab 139 = some ⟨.func, 1, .nilFunc⟩ := rfl
@[simp] theorem tab140 : tab 140 = some ⟨.flat, 1, .pointer none⟩ := rfl
@[simp] theorem tab141 : tab 141 = some ⟨.func, 1, .nilFunc⟩ := rfl
@[simp] theorem tab142 : tab 142 = some ⟨.func, 1, .nilFunc⟩ := rfl
@[simp] theorem tab143 : tab 143 = some ⟨.func, 1, .nilFunc⟩ := rfl
@[simp] theorem tab144 : tab 144 = some ⟨.func, 1, .nilFunc⟩ := rfl
@[simp] theorem tab145 : tab 145 = some ⟨.func, 1, .nilFunc⟩ := rfl
@[simp] theorem tab146 : tab 146 = some ⟨.func, 1, .nilFunc⟩ := rfl
@[simp] theorem tab147 : tab 147 = some ⟨.flat, 1, .pointer none⟩ := rfl
@[simp] theorem tab149 : tab 149 = some ⟨.func, 1, .nilFunc⟩ := rfl
@[simp] theorem tab150 : tab 150 = some ⟨.func, 1, .nilFunc⟩ := rfl
@[simp] theorem tab151 : tab 151 = some ⟨.func, 1, .nilFunc⟩ := rfl
@[simp] theorem tab152 : tab 152 = some ⟨.func, 1, .nilFunc⟩ := rfl
@[simp] theorem tab153 : tab 153 = some ⟨.strct [(0, 1, false), (1, 1, false), (2, 1, false), (3, 1, false)], 4, .agg #[.pointer none, .pointer none, .pointer none, str []]⟩ := rfl
@[simp] theorem tab154 : tab 154 = some ⟨.strct [(0, 1, false), (1, 1, false), (2, 1, false), (3, 1, false)], 4, .agg #[.pointer none, .pointer none, .pointer none, str []]⟩ := rfl
@[simp] theorem tab155 : tab 155 = some ⟨.arr 0 1 false, 0, .agg #[]⟩ := rfl
@[simp] theorem tab156 : tab 156 = some ⟨.strct [(0, 0, true)], 0, .agg #[]⟩ := rfl
@[simp] theorem tab157 : tab 157 = some ⟨.strct [(0, 0, true)], 0, .agg #[]⟩ := rfl
@[simp] theorem tab158 : tab 158 = some ⟨.func, 1, .nilFunc⟩ := rfl
@[simp] theorem tab159 : tab 159 = some ⟨.int .u8, 1, .int .u8 0⟩ := rfl
@[simp] theorem tab160 : tab 160 = some ⟨.int .u8, 1, .int .u8 0⟩ := rfl
@[simp] theorem tab161 : tab 161 = some ⟨.func, 1, .nilFunc⟩ := rfl
@[simp] theorem tab162 : tab 162 = some ⟨.flat, 1, .pointer none⟩ := rfl
@[simp] theorem tab163 : tab 163 = some ⟨.int .i32, 1, .int .i32 0⟩ := rfl
@[simp] theorem tab164 : tab 164 = some ⟨.int .i32, 1, .int .i32 0⟩ := rfl
@[simp] theorem tab165 : tab 165 = some ⟨.strct [(0, 1, false), (1, 1, false), (2, 1, false), (3, 1, false), (4, 1, false), (5, 1, false), (6, 1, false), (7, 1, false), (8, 1, false), (9, 1, false), (10, 1, false)], 11, .agg #[.int .u64 0, .int .u64 0, .int .u32 0, .int .u8 0, .int .u8 0, .int .u8 0, .int .u8 0, .nilFunc, .pointer none, .int .i32 0, .int .i32 0]⟩ := rfl
@[simp] theorem tab166 : tab 166 = some ⟨.strct [(0, 1, false), (1, 1, false), (2, 1, false), (3, 1, false), (4, 1, false), (5, 1, false), (6, 1, false), (7, 1, false), (8, 1, false), (9, 1, false), (10, 1, false)], 11, .agg #[.int .u64 0, .int .u64 0, .int .u32 0, .int .u8 0, .int .u8 0, .int .u8 0, .int .u8 0, .nilFunc, .pointer none, .int .i32 0, .int .i32 0]⟩ := rfl
theorem info_of {t : TypeId} {z : Value} {s b : Nat} (h : (Tryz.prog.info? t).map (fun i => (i.zero, i.size, i.bytes)) = some (some z, s, b)) : ∃ I, Tryz.prog.info? t = some I ∧ I.size = s ∧ I.bytes = b ∧ I.zero = some z := by
  obtain ⟨I, h1, h2⟩ := Option.map_eq_some_iff.1 h
  injection h2 with h2 h3
  injection h3 with h3 h4
  exact ⟨I, h1, h3, h4, h2⟩
theorem info_two {t : TypeId} {z : Value} {s b : Nat} (h : (Tryz.prog.info? t).map (fun i => (i.zero, i.size, i.bytes)) = some (some z, s, b)) : ∃ I, Tryz.prog.info? t = some I ∧ I.zero = some z ∧ I.size = s := by
  obtain ⟨I, h1, h2, _, h4⟩ := info_of h
  exact ⟨I, h1, h4, h2⟩
theorem inf1 : (Tryz.prog.info? 1).map (fun i => (i.zero, i.size, i.bytes)) = some (some (.nilFunc), 1, 8) := by kernel_rfl
theorem inf2 : (Tryz.prog.info? 2).map (fun i => (i.zero, i.size, i.bytes)) = some (some (.int .i64 0), 1, 8) := by kernel_rfl
theorem inf3 : (Tryz.prog.info? 3).map (fun i => (i.zero, i.size, i.bytes)) = some (some (.int .i64 0), 1, 8) := by kernel_rfl
theorem inf4 : (Tryz.prog.info? 4).map (fun i => (i.zero, i.size, i.bytes)) = some (some (.bool false), 1, 1) := by kernel_rfl
theorem inf5 : (Tryz.prog.info? 5).map (fun i => (i.zero, i.size, i.bytes)) = some (some (.int .u8 0), 1, 1) := by kernel_rfl
theorem inf6 : (Tryz.prog.info? 6).map (fun i => (i.zero, i.size, i.bytes)) = some (some (.int .u8 0), 1, 1) := by kernel_rfl
theorem inf7 : (Tryz.prog.info? 7).map (fun i => (i.zero, i.size, i.bytes)) = some (some (.agg #[.int .i64 0, .int .i64 0, .bool false, .int .u8 0]), 4, 24) := by kernel_rfl
theorem inf8 : (Tryz.prog.info? 8).map (fun i => (i.zero, i.size, i.bytes)) = some (some (.agg #[.int .i64 0, .int .i64 0, .bool false, .int .u8 0]), 4, 24) := by kernel_rfl
theorem inf9 : (Tryz.prog.info? 9).map (fun i => (i.zero, i.size, i.bytes)) = some (some (str []), 1, 16) := by kernel_rfl
theorem inf10 : (Tryz.prog.info? 10).map (fun i => (i.zero, i.size, i.bytes)) = some (some (str []), 1, 16) := by kernel_rfl
theorem inf11 : (Tryz.prog.info? 11).map (fun i => (i.zero, i.size, i.bytes)) = some (some (str []), 1, 16) := by kernel_rfl
theorem inf12 : (Tryz.prog.info? 12).map (fun i => (i.zero, i.size, i.bytes)) = some (some (.int .u64 0), 1, 8) := by kernel_rfl
theorem inf13 : (Tryz.prog.info? 13).map (fun i => (i.zero, i.size, i.bytes)) = some (some (.agg #[str [], .int .u64 0]), 2, 24) := by kernel_rfl
theorem inf14 : (Tryz.prog.info? 14).map (fun i => (i.zero, i.size, i.bytes)) = some (some (.agg #[str [], .int .u64 0]), 2, 24) := by kernel_rfl
theorem inf15 : (Tryz.prog.info? 15).map (fun i => (i.zero, i.size, i.bytes)) = some (some (.pointer none), 1, 8) := by kernel_rfl
theorem inf16 : (Tryz.prog.info? 16).map (fun i => (i.zero, i.size, i.bytes)) = some (some (.pointer none), 1, 8) := by kernel_rfl
theorem inf17 : (Tryz.prog.info? 17).map (fun i => (i.zero, i.size, i.bytes)) = some (some (.pointer none), 1, 8) := by kernel_rfl
theorem inf18 : (Tryz.prog.info? 18).map (fun i => (i.zero, i.size, i.bytes)) = some (some (.agg #[.pointer none]), 1, 8) := by kernel_rfl
theorem inf19 : (Tryz.prog.info? 19).map (fun i => (i.zero, i.size, i.bytes)) = some (some (.agg #[.pointer none]), 1, 8) := by kernel_rfl
theorem inf20 : (Tryz.prog.info? 20).map (fun i => (i.zero, i.size, i.bytes)) = some (some (.nilIface), 1, 16) := by kernel_rfl
theorem inf21 : (Tryz.prog.info? 21).map (fun i => (i.zero, i.size, i.bytes)) = some (some (.int .i32 0), 1, 4) := by kernel_rfl
theorem inf22 : (Tryz.prog.info? 22).map (fun i => (i.zero, i.size, i.bytes)) = some (some (.slice none 0 0), 1, 24) := by kernel_rfl
theorem inf23 : (Tryz.prog.info? 23).map (fun i => (i.zero, i.size, i.bytes)) = some (some (.nilFunc), 1, 8) := by kernel_rfl
theorem inf25 : (Tryz.prog.info? 25).map (fun i => (i.zero, i.size, i.bytes)) = some (some (.nilFunc), 1, 8) := by kernel_rfl
theorem inf27 : (Tryz.prog.info? 27).map (fun i => (i.zero, i.size, i.bytes)) = some (some (.nilFunc), 1, 8) := by kernel_rfl
theorem inf29 : (Tryz.prog.info? 29).map (fun i => (i.zero, i.size, i.bytes)) = some (some (.nilFunc), 1, 8) := by kernel_rfl
theorem inf30 : (Tryz.prog.info? 30).map (fun i => (i.zero, i.size, i.bytes)) = some (some (.slice none 0 0), 1, 24) := by kernel_rfl
theorem inf31 : (Tryz.prog.info? 31).map (fun i => (i.zero, i.size, i.bytes)) = some (some (.nilFunc), 1, 8) := by kernel_rfl
theorem inf32 : (Tryz.prog.info? 32).map (fun i => (i.zero, i.size, i.bytes)) = some (some (.slice none 0 0), 1, 24) := by kernel_rfl
theorem inf34 : (Tryz.prog.info? 34).map (fun i => (i.zero, i.size, i.bytes)) = some (some (.nilFunc), 1, 8) := by kernel_rfl
theorem inf35 : (Tryz.prog.info? 35).map (fun i => (i.zero, i.size, i.bytes)) = some (some (.nilFunc), 1, 8) := by kernel_rfl
theorem inf37 : (Tryz.prog.info? 37).map (fun i => (i.zero, i.size, i.bytes)) = some (some (.nilFunc), 1, 8) := by kernel_rfl
theorem inf38 : (Tryz.prog.info? 38).map (fun i => (i.zero, i.size, i.bytes)) = some (some (.nilFunc), 1, 8) := by kernel_rfl
theorem inf39 : (Tryz.prog.info? 39).map (fun i => (i.zero, i.size, i.bytes)) = some (some (.slice none 0 0), 1, 24) := by kernel_rfl
theorem inf41 : (Tryz.prog.info? 41).map (fun i => (i.zero, i.size, i.bytes)) = some (some (.nilFunc), 1, 8) := by kernel_rfl
theorem inf42 : (Tryz.prog.info? 42).map (fun i => (i.zero, i.size, i.bytes)) = some (some (.nilFunc), 1, 8) := by kernel_rfl
theorem inf43 : (Tryz.prog.info? 43).map (fun i => (i.zero, i.size, i.bytes)) = some (some (.nilFunc), 1, 8) := by kernel_rfl
theorem inf44 : (Tryz.prog.info? 44).map (fun i => (i.zero, i.size, i.bytes)) = some (some (.nilFunc), 1, 8) := by kernel_rfl
theorem inf45 : (Tryz.prog.info? 45).map (fun i => (i.zero, i.size, i.bytes)) = some (some (.nilFunc), 1, 8) := by kernel_rfl
theorem inf46 : (Tryz.prog.info? 46).map (fun i => (i.zero, i.size, i.bytes)) = some (some (.nilFunc), 1, 8) := by kernel_rfl
theorem inf47 : (Tryz.prog.info? 47).map (fun i => (i.zero, i.size, i.bytes)) = some (some (.nilFunc), 1, 8) := by kernel_rfl
theorem inf49 : (Tryz.prog.info? 49).map (fun i => (i.zero, i.size, i.bytes)) = some (some (.nilFunc), 1, 8) := by kernel_rfl
theorem inf50 : (Tryz.prog.info? 50).map (fun i => (i.zero, i.size, i.bytes)) = some (some (.nilFunc), 1, 8) := by kernel_rfl
theorem inf52 : (Tryz.prog.info? 52).map (fun i => (i.zero, i.size, i.bytes)) = some (some (.nilFunc), 1, 8) := by kernel_rfl
theorem inf53 : (Tryz.prog.info? 53).map (fun i => (i.zero, i.size, i.bytes)) = some (some (.nilFunc), 1, 8) := by kernel_rfl
theorem inf54 : (Tryz.prog.info? 54).map (fun i => (i.zero, i.size, i.bytes)) = some (some (.nilFunc), 1, 8) := by kernel_rfl
theorem inf55 : (Tryz.prog.info? 55).map (fun i => (i.zero, i.size, i.bytes)) = some (some (.pointer none), 1, 8) := by kernel_rfl
theorem inf56 : (Tryz.prog.info? 56).map (fun i => (i.zero, i.size, i.bytes)) = some (some (.nilFunc), 1, 8) := by kernel_rfl
theorem inf57 : (Tryz.prog.info? 57).map (fun i => (i.zero, i.size, i.bytes)) = some (some (.nilFunc), 1, 8) := by kernel_rfl
theorem inf58 : (Tryz.prog.info? 58).map (fun i => (i.zero, i.size, i.bytes)) = some (some (.nilFunc), 1, 8) := by kernel_rfl
theorem inf59 : (Tryz.prog.info? 59).map (fun i => (i.zero, i.size, i.bytes)) = some (some (.nilFunc), 1, 8) := by kernel_rfl
theorem inf60 : (Tryz.prog.info? 60).map (fun i => (i.zero, i.size, i.bytes)) = some (some (.nilFunc), 1, 8) := by kernel_rfl
theorem inf61 : (Tryz.prog.info? 61).map (fun i => (i.zero, i.size, i.bytes)) = some (some (.nilFunc), 1, 8) := by kernel_rfl
theorem inf62 : (Tryz.prog.info? 62).map (fun i => (i.zero, i.size, i.bytes)) = some (some (.nilFunc), 1, 8) := by kernel_rfl
theorem inf63 : (Tryz.prog.info? 63).map (fun i => (i.zero, i.size, i.bytes)) = some (some (.nilFunc), 1, 8) := by kernel_rfl
theorem inf64 : (Tryz.prog.info? 64).map (fun i => (i.zero, i.size, i.bytes)) = some (some (.nilFunc), 1, 8) := by kernel_rfl
theorem inf65 : (Tryz.prog.info? 65).map (fun i => (i.zero, i.size, i.bytes)) = some (some (.nilFunc), 1, 8) := by kernel_rfl
theorem inf66 : (Tryz.prog.info? 66).map (fun i => (i.zero, i.size, i.bytes)) = some (some (.nilFunc), 1, 8) := by kernel_rfl
theorem inf67 : (Tryz.prog.info? 67).map (fun i => (i.zero, i.size, i.bytes)) = some (some (.nilFunc), 1, 8) := by kernel_rfl
theorem inf68 : (Tryz.prog.info? 68).map (fun i => (i.zero, i.size, i.bytes)) = some (some (.nilFunc), 1, 8) := by kernel_rfl
theorem inf69 : (Tryz.prog.info? 69).map (fun i => (i.zero, i.size, i.bytes)) = some (some (.nilFunc), 1, 8) := by kernel_rfl
theorem inf70 : (Tryz.prog.info? 70).map (fun i => (i.zero, i.size, i.bytes)) = some (some (.nilFunc), 1, 8) := by kernel_rfl
theorem inf71 : (Tryz.prog.info? 71).map (fun i => (i.zero, i.size, i.bytes)) = some (some (.nilFunc), 1, 8) := by kernel_rfl
theorem inf72 : (Tryz.prog.info? 72).map (fun i => (i.zero, i.size, i.bytes)) = some (some (.nilFunc), 1, 8) := by kernel_rfl
theorem inf73 : (Tryz.prog.info? 73).map (fun i => (i.zero, i.size, i.bytes)) = some (some (.nilFunc), 1, 8) := by kernel_rfl
theorem inf74 : (Tryz.prog.info? 74).map (fun i => (i.zero, i.size, i.bytes)) = some (some (.nilFunc), 1, 8) := by kernel_rfl
theorem inf75 : (Tryz.prog.info? 75).map (fun i => (i.zero, i.size, i.bytes)) = some (some (.nilFunc), 1, 8) := by kernel_rfl
theorem inf76 : (Tryz.prog.info? 76).map (fun i => (i.zero, i.size, i.bytes)) = some (some (.nilFunc), 1, 8) := by kernel_rfl
theorem inf77 : (Tryz.prog.info? 77).map (fun i => (i.zero, i.size, i.bytes)) = some (some (.nilFunc), 1, 8) := by kernel_rfl
theorem inf78 : (Tryz.prog.info? 78).map (fun i => (i.zero, i.size, i.bytes)) = some (some (.nilFunc), 1, 8) := by kernel_rfl
theorem inf79 : (Tryz.prog.info? 79).map (fun i => (i.zero, i.size, i.bytes)) = some (some (.nilFunc), 1, 8) := by kernel_rfl
theorem inf80 : (Tryz.prog.info? 80).map (fun i => (i.zero, i.size, i.bytes)) = some (some (.nilFunc), 1, 8) := by kernel_rfl
theorem inf81 : (Tryz.prog.info? 81).map (fun i => (i.zero, i.size, i.bytes)) = some (some (.nilFunc), 1, 8) := by kernel_rfl
theorem inf82 : (Tryz.prog.info? 82).map (fun i => (i.zero, i.size, i.bytes)) = some (some (.nilFunc), 1, 8) := by kernel_rfl
theorem inf83 : (Tryz.prog.info? 83).map (fun i => (i.zero, i.size, i.bytes)) = some (some (.nilFunc), 1, 8) := by kernel_rfl
theorem inf84 : (Tryz.prog.info? 84).map (fun i => (i.zero, i.size, i.bytes)) = some (some (.nilFunc), 1, 8) := by kernel_rfl
theorem inf85 : (Tryz.prog.info? 85).map (fun i => (i.zero, i.size, i.bytes)) = some (some (.nilFunc), 1, 8) := by kernel_rfl
theorem inf86 : (Tryz.prog.info? 86).map (fun i => (i.zero, i.size, i.bytes)) = some (some (.nilFunc), 1, 8) := by kernel_rfl
theorem inf87 : (Tryz.prog.info? 87).map (fun i => (i.zero, i.size, i.bytes)) = some (some (.nilFunc), 1, 8) := by kernel_rfl
theorem inf89 : (Tryz.prog.info? 89).map (fun i => (i.zero, i.size, i.bytes)) = some (some (.nilFunc), 1, 8) := by kernel_rfl
theorem inf90 : (Tryz.prog.info? 90).map (fun i => (i.zero, i.size, i.bytes)) = some (some (.nilFunc), 1, 8) := by kernel_rfl
theorem inf91 : (Tryz.prog.info? 91).map (fun i => (i.zero, i.size, i.bytes)) = some (some (.nilFunc), 1, 8) := by kernel_rfl
theorem inf92 : (Tryz.prog.info? 92).map (fun i => (i.zero, i.size, i.bytes)) = some (some (.slice none 0 0), 1, 24) := by kernel_rfl
theorem inf93 : (Tryz.prog.info? 93).map (fun i => (i.zero, i.size, i.bytes)) = some (some (.int .u64 0), 1, 8) := by kernel_rfl
theorem inf94 : (Tryz.prog.info? 94).map (fun i => (i.zero, i.size, i.bytes)) = some (some (.agg #[.slice none 0 0, .int .i64 0, .int .u64 0]), 3, 40) := by kernel_rfl
theorem inf95 : (Tryz.prog.info? 95).map (fun i => (i.zero, i.size, i.bytes)) = some (some (.agg #[.slice none 0 0, .int .i64 0, .int .u64 0]), 3, 40) := by kernel_rfl
theorem inf96 : (Tryz.prog.info? 96).map (fun i => (i.zero, i.size, i.bytes)) = some (some (.nilFunc), 1, 8) := by kernel_rfl
theorem inf97 : (Tryz.prog.info? 97).map (fun i => (i.zero, i.size, i.bytes)) = some (some (.nilFunc), 1, 8) := by kernel_rfl
theorem inf98 : (Tryz.prog.info? 98).map (fun i => (i.zero, i.size, i.bytes)) = some (some (.int .u64 0), 1, 8) := by kernel_rfl
theorem inf99 : (Tryz.prog.info? 99).map (fun i => (i.zero, i.size, i.bytes)) = some (some (.nilFunc), 1, 8) := by kernel_rfl
theorem inf100 : (Tryz.prog.info? 100).map (fun i => (i.zero, i.size, i.bytes)) = some (some (.nilFunc), 1, 8) := by kernel_rfl
theorem inf101 : (Tryz.prog.info? 101).map (fun i => (i.zero, i.size, i.bytes)) = some (some (.nilFunc), 1, 8) := by kernel_rfl
theorem inf102 : (Tryz.prog.info? 102).map (fun i => (i.zero, i.size, i.bytes)) = some (some (.nilFunc), 1, 8) := by kernel_rfl
theorem inf103 : (Tryz.prog.info? 103).map (fun i => (i.zero, i.size, i.bytes)) = some (some (.nilFunc), 1, 8) := by kernel_rfl
theorem inf104 : (Tryz.prog.info? 104).map (fun i => (i.zero, i.size, i.bytes)) = some (some (.nilFunc), 1, 8) := by kernel_rfl
theorem inf105 : (Tryz.prog.info? 105).map (fun i => (i.zero, i.size, i.bytes)) = some (some (.nilFunc), 1, 8) := by kernel_rfl
theorem inf106 : (Tryz.prog.info? 106).map (fun i => (i.zero, i.size, i.bytes)) = some (some (.nilFunc), 1, 8) := by kernel_rfl
theorem inf107 : (Tryz.prog.info? 107).map (fun i => (i.zero, i.size, i.bytes)) = some (some (.nilFunc), 1, 8) := by kernel_rfl
theorem inf108 : (Tryz.prog.info? 108).map (fun i => (i.zero, i.size, i.bytes)) = some (some (.nilFunc), 1, 8) := by kernel_rfl
theorem inf109 : (Tryz.prog.info? 109).map (fun i => (i.zero, i.size, i.bytes)) = some (some (.nilFunc), 1, 8) := by kernel_rfl
theorem inf110 : (Tryz.prog.info? 110).map (fun i => (i.zero, i.size, i.bytes)) = some (some (.nilFunc), 1, 8) := by kernel_rfl
theorem inf111 : (Tryz.prog.info? 111).map (fun i => (i.zero, i.size, i.bytes)) = some (some (.nilFunc), 1, 8) := by kernel_rfl
theorem inf112 : (Tryz.prog.info? 112).map (fun i => (i.zero, i.size, i.bytes)) = some (some (.nilFunc), 1, 8) := by kernel_rfl
theorem inf113 : (Tryz.prog.info? 113).map (fun i => (i.zero, i.size, i.bytes)) = some (some (.int .i64 0), 1, 8) := by kernel_rfl
theorem inf115 : (Tryz.prog.info? 115).map (fun i => (i.zero, i.size, i.bytes)) = some (some (.nilFunc), 1, 8) := by kernel_rfl
theorem inf116 : (Tryz.prog.info? 116).map (fun i => (i.zero, i.size, i.bytes)) = some (some (.nilFunc), 1, 8) := by kernel_rfl
theorem inf117 : (Tryz.prog.info? 117).map (fun i => (i.zero, i.size, i.bytes)) = some (some (.nilFunc), 1, 8) := by kernel_rfl
theorem inf118 : (Tryz.prog.info? 118).map (fun i => (i.zero, i.size, i.bytes)) = some (some (.nilFunc), 1, 8) := by kernel_rfl
theorem inf120 : (Tryz.prog.info? 120).map (fun i => (i.zero, i.size, i.bytes)) = some (some (.nilFunc), 1, 8) := by kernel_rfl
theorem inf121 : (Tryz.prog.info? 121).map (fun i => (i.zero, i.size, i.bytes)) = some (some (.nilFunc), 1, 8) := by kernel_rfl
theorem inf122 : (Tryz.prog.info? 122).map (fun i => (i.zero, i.size, i.bytes)) = some (some (.int .u32 0), 1, 4) := by kernel_rfl
theorem inf123 : (Tryz.prog.info? 123).map (fun i => (i.zero, i.size, i.bytes)) = some (some (.nilFunc), 1, 8) := by kernel_rfl
theorem inf124 : (Tryz.prog.info? 124).map (fun i => (i.zero, i.size, i.bytes)) = some (some (.nilFunc), 1, 8) := by kernel_rfl
theorem inf125 : (Tryz.prog.info? 125).map (fun i => (i.zero, i.size, i.bytes)) = some (some (.nilFunc), 1, 8) := by kernel_rfl
theorem inf126 : (Tryz.prog.info? 126).map (fun i => (i.zero, i.size, i.bytes)) = some (some (.nilFunc), 1, 8) := by kernel_rfl
theorem inf127 : (Tryz.prog.info? 127).map (fun i => (i.zero, i.size, i.bytes)) = some (some (.nilFunc), 1, 8) := by kernel_rfl
theorem inf128 : (Tryz.prog.info? 128).map (fun i => (i.zero, i.size, i.bytes)) = some (some (.nilFunc), 1, 8) := by kernel_rfl
theorem inf129 : (Tryz.prog.info? 129).map (fun i => (i.zero, i.size, i.bytes)) = some (some (.nilFunc), 1, 8) := by kernel_rfl
theorem inf130 : (Tryz.prog.info? 130).map (fun i => (i.zero, i.size, i.bytes)) = some (some (.nilFunc), 1, 8) := by kernel_rfl
theorem inf131 : (Tryz.prog.info? 131).map (fun i => (i.zero, i.size, i.bytes)) = some (some (.nilFunc), 1, 8) := by kernel_rfl
theorem inf132 : (Tryz.prog.info? 132).map (fun i => (i.zero, i.size, i.bytes)) = some (some (.nilFunc), 1, 8) := by kernel_rfl
theorem inf133 : (Tryz.prog.info? 133).map (fun i => (i.zero, i.size, i.bytes)) = some (some (.nilFunc), 1, 8) := by kernel_rfl
theorem inf134 : (Tryz.prog.info? 134).map (fun i => (i.zero, i.size, i.bytes)) = some (some (.nilFunc), 1, 8) := by kernel_rfl
theorem inf135 : (Tryz.prog.info? 135).map (fun i => (i.zero, i.size, i.bytes)) = some (some (.nilFunc), 1, 8) := by kernel_rfl
theorem inf136 : (Tryz.prog.info? 136).map (fun i => (i.zero, i.size, i.bytes)) = some (some (.int .u64 0), 1, 8) := by kernel_rfl
theorem inf137 : (Tryz.prog.info? 137).map (fun i => (i.zero, i.size, i.bytes)) = some (some (.nilFunc), 1, 8) := by kernel_rfl
theorem inf138 : (Tryz.prog.info? 138).map (fun i => (i.zero, i.size, i.bytes)) = some (some (.nilFunc), 1, 8) := by kernel_rfl
theorem inf139 : (Tryz.prog.info? 139).map (fun i => (i.zero, i.size, i.bytes)) = some (some (.nilFunc), 1, 8) := by kernel_rfl
theorem inf140 : (Tryz.prog.info? 140).map (fun i => (i.zero, i.size, i.bytes)) = some (some (.pointer none), 1, 8) := by kernel_rfl
theorem inf141 : (Tryz.prog.info? 141).map (fun i => (i.zero, i.size, i.bytes)) = some (some (.nilFunc), 1, 8) := by kernel_rfl
theorem inf142 : (Tryz.prog.info? 142).map (fun i => (i.zero, i.size, i.bytes)) = some (some (.nilFunc), 1, 8) := by kernel_rfl
theorem inf143 : (Tryz.prog.info? 143).map (fun i => (i.zero, i.size, i.bytes)) = some (some (.nilFunc), 1, 8) := by kernel_rfl
theorem inf144 : (Tryz.prog.info? 144).map (fun i => (i.zero, i.size, i.bytes)) = some (some (.nilFunc), 1, 8) := by kernel_rfl
theorem inf145 : (Tryz.prog.info? 145).map (fun i => (i.zero, i.size, i.bytes)) = some (some (.nilFunc), 1, 8) := by kernel_rfl
theorem inf146 : (Tryz.prog.info? 146).map (fun i => (i.zero, i.size, i.bytes)) = some (some (.nilFunc), 1, 8) := by kernel_rfl
theorem inf147 : (Tryz.prog.info? 147).map (fun i => (i.zero, i.size, i.bytes)) = some (some (.pointer none), 1, 8) := by kernel_rfl
theorem inf149 : (Tryz.prog.info? 149).map (fun i => (i.zero, i.size, i.bytes)) = some (some (.nilFunc), 1, 8) := by kernel_rfl
theorem inf150 : (Tryz.prog.info? 150).map (fun i => (i.zero, i.size, i.bytes)) = some (some (.nilFunc), 1, 8) := by kernel_rfl
theorem inf151 : (Tryz.prog.info? 151).map (fun i => (i.zero, i.size, i.bytes)) = some (some (.nilFunc), 1, 8) := by kernel_rfl
theorem inf152 : (Tryz.prog.info? 152).map (fun i => (i.zero, i.size, i.bytes)) = some (some (.nilFunc), 1, 8) := by kernel_rfl
theorem inf153 : (Tryz.prog.info? 153).map (fun i => (i.zero, i.size, i.bytes)) = some (some (.agg #[.pointer none, .pointer none, .pointer none, str []]), 4, 40) := by kernel_rfl
theorem inf154 : (Tryz.prog.info? 154).map (fun i => (i.zero, i.size, i.bytes)) = some (some (.agg #[.pointer none, .pointer none, .pointer none, str []]), 4, 40) := by kernel_rfl
theorem inf155 : (Tryz.prog.info? 155).map (fun i => (i.zero, i.size, i.bytes)) = some (some (.agg #[]), 0, 0) := by kernel_rfl
theorem inf156 : (Tryz.prog.info? 156).map (fun i => (i.zero, i.size, i.bytes)) = some (some (.agg #[]), 0, 0) := by kernel_rfl
theorem inf157 : (Tryz.prog.info? 157).map (fun i => (i.zero, i.size, i.bytes)) = some (some (.agg #[]), 0, 0) := by kernel_rfl
theorem inf158 : (Tryz.prog.info? 158).map (fun i => (i.zero, i.size, i.bytes)) = some (some (.nilFunc), 1, 8) := by kernel_rfl
theorem inf159 : (Tryz.prog.info? 159).map (fun i => (i.zero, i.size, i.bytes)) = some (some (.int .u8 0), 1, 1) := by kernel_rfl
theorem inf160 : (Tryz.prog.info? 160).map (fun i => (i.zero, i.size, i.bytes)) = some (some (.int .u8 0), 1, 1) := by kernel_rfl
theorem inf161 : (Tryz.prog.info? 161).map (fun i => (i.zero, i.size, i.bytes)) = some (some (.nilFunc), 1, 8) := by kernel_rfl
theorem inf162 : (Tryz.prog.info? 162).map (fun i => (i.zero, i.size, i.bytes)) = some (some (.pointer none), 1, 8) := by kernel_rfl
theorem inf163 : (Tryz.prog.info? 163).map (fun i => (i.zero, i.size, i.bytes)) = some (some (.int .i32 0), 1, 4) := by kernel_rfl
theorem inf164 : (Tryz.prog.info? 164).map (fun i => (i.zero, i.size, i.bytes)) = some (some (.int .i32 0), 1, 4) := by kernel_rfl
theorem inf165 : (Tryz.prog.info? 165).map (fun i => (i.zero, i.size, i.bytes)) = some (some (.agg #[.int .u64 0, .int .u64 0, .int .u32 0, .int .u8 0, .int .u8 0, .int .u8 0, .int .u8 0, .nilFunc, .pointer none, .int .i32 0, .int .i32 0]), 11, 48) := by kernel_rfl
theorem inf166 : (Tryz.prog.info? 166).map (fun i => (i.zero, i.size, i.bytes)) = some (some (.agg #[.int .u64 0, .int .u64 0, .int .u32 0, .int .u8 0, .int .u8 0, .int .u8 0, .int .u8 0, .nilFunc, .pointer none, .int .i32 0, .int .i32 0]), 11, 48) := by kernel_rfl
theorem ok1 : TI.ok Tryz.prog 1 ⟨.func, 1, .nilFunc⟩ := ⟨⟨_, _, _, Tryz.underlying1⟩, info_two inf1⟩
theorem ok2 : TI.ok Tryz.prog 2 ⟨.int .i64, 1, .int .i64 0⟩ := ⟨Tryz.underlying2, info_two inf2⟩
theorem ok3 : TI.ok Tryz.prog 3 ⟨.int .i64, 1, .int .i64 0⟩ := ⟨Tryz.underlying3, info_two inf3⟩
theorem ok4 : TI.ok Tryz.prog 4 ⟨.bool, 1, .bool false⟩ := ⟨Tryz.underlying4, info_two inf4⟩
theorem ok5 : TI.ok Tryz.prog 5 ⟨.int .u8, 1, .int .u8 0⟩ := ⟨Tryz.underlying5, info_two inf5⟩
theorem ok6 : TI.ok Tryz.prog 6 ⟨.int .u8, 1, .int .u8 0⟩ := ⟨Tryz.underlying6, info_two inf6⟩
theorem ok7 : TI.ok Tryz.prog 7 ⟨.strct [(0, 1, false), (1, 1, false), (2, 1, false), (3, 1, false)], 4, .agg #[.int .i64 0, .int .i64 0, .bool false, .int .u8 0]⟩ := ⟨⟨_, Tryz.underlying7, by kernel_rfl, by
    intro f hf
    simp only [List.mem_cons, List.not_mem_nil, or_false] at hf
    (first | (rcases hf with rfl | rfl | rfl | rfl) | (obtain rfl := hf)) <;> exact ⟨by kernel_rfl, by kernel_rfl⟩⟩, info_two inf7⟩
theorem ok8 : TI.ok Tryz.prog 8 ⟨.strct [(0, 1, false), (1, 1, false), (2, 1, false), (3, 1, false)], 4, .agg #[.int .i64 0, .int .i64 0, .bool false, .int .u8 0]⟩ := ⟨⟨_, Tryz.underlying8, by kernel_rfl, by
    intro f hf
    simp only [List.mem_cons, List.not_mem_nil, or_false] at hf
    (first | (rcases hf with rfl | rfl | rfl | rfl) | (obtain rfl := hf)) <;> exact ⟨by kernel_rfl, by kernel_rfl⟩⟩, info_two inf8⟩
theorem ok9 : TI.ok Tryz.prog 9 ⟨.str, 1, str []⟩ := ⟨Tryz.underlying9, info_two inf9⟩
theorem ok10 : TI.ok Tryz.prog 10 ⟨.str, 1, str []⟩ := ⟨Tryz.underlying10, info_two inf10⟩
theorem ok11 : TI.ok Tryz.prog 11 ⟨.str, 1, str []⟩ := ⟨Tryz.underlying11, info_two inf11⟩
theorem ok12 : TI.ok Tryz.prog 12 ⟨.int .u64, 1, .int .u64 0⟩ := ⟨Tryz.underlying12, info_two inf12⟩
theorem ok13 : TI.ok Tryz.prog 13 ⟨.strct [(0, 1, false), (1, 1, false)], 2, .agg #[str [], .int .u64 0]⟩ := ⟨⟨_, Tryz.underlying13, by kernel_rfl, by
    intro f hf
    simp only [List.mem_cons, List.not_mem_nil, or_false] at hf
    (first | (rcases hf with rfl | rfl) | (obtain rfl := hf)) <;> exact ⟨by kernel_rfl, by kernel_rfl⟩⟩, info_two inf13⟩
theorem ok14 : TI.ok Tryz.prog 14 ⟨.strct [(0, 1, false), (1, 1, false)], 2, .agg #[str [], .int .u64 0]⟩ := ⟨⟨_, Tryz.underlying14, by kernel_rfl, by
    intro f hf
    simp only [List.mem_cons, List.not_mem_nil, or_false] at hf
    (first | (rcases hf with rfl | rfl) | (obtain rfl := hf)) <;> exact ⟨by kernel_rfl, by kernel_rfl⟩⟩, info_two inf14⟩
theorem ok15 : TI.ok Tryz.prog 15 ⟨.flat, 1, .pointer none⟩ := ⟨⟨_, Tryz.underlying15, rfl⟩, info_two inf15⟩
theorem ok16 : TI.ok Tryz.prog 16 ⟨.flat, 1, .pointer none⟩ := ⟨⟨_, Tryz.underlying16, rfl⟩, info_two inf16⟩
theorem ok17 : TI.ok Tryz.prog 17 ⟨.flat, 1, .pointer none⟩ := ⟨⟨_, Tryz.underlying17, rfl⟩, info_two inf17⟩
theorem ok18 : TI.ok Tryz.prog 18 ⟨.strct [(0, 1, false)], 1, .agg #[.pointer none]⟩ := ⟨⟨_, Tryz.underlying18, by kernel_rfl, by
    intro f hf
    simp only [List.mem_cons, List.not_mem_nil, or_false] at hf
    (first | (rcases hf with rfl) | (obtain rfl := hf)) <;> exact ⟨by kernel_rfl, by kernel_rfl⟩⟩, info_two inf18⟩
theorem ok19 : TI.ok Tryz.prog 19 ⟨.strct [(0, 1, false)], 1, .agg #[.pointer none]⟩ := ⟨⟨_, Tryz.underlying19, by kernel_rfl, by
    intro f hf
    simp only [List.mem_cons, List.not_mem_nil, or_false] at hf
    (first | (rcases hf with rfl) | (obtain rfl := hf)) <;> exact ⟨by kernel_rfl, by kernel_rfl⟩⟩, info_two inf19⟩
theorem ok20 : TI.ok Tryz.prog 20 ⟨.iface, 1, .nilIface⟩ := ⟨⟨_, Tryz.underlying20⟩, info_two inf20⟩
theorem ok21 : TI.ok Tryz.prog 21 ⟨.int .i32, 1, .int .i32 0⟩ := ⟨Tryz.underlying21, info_two inf21⟩
theorem ok22 : TI.ok Tryz.prog 22 ⟨.slc 5 1 1 (.int .u8 0), 1, .slice none 0 0⟩ := ⟨⟨Tryz.underlying22, info_of inf5⟩, info_two inf22⟩
theorem ok23 : TI.ok Tryz.prog 23 ⟨.func, 1, .nilFunc⟩ := ⟨⟨_, _, _, Tryz.underlying23⟩, info_two inf23⟩
theorem ok25 : TI.ok Tryz.prog 25 ⟨.func, 1, .nilFunc⟩ := ⟨⟨_, _, _, Tryz.underlying25⟩, info_two inf25⟩
theorem ok27 : TI.ok Tryz.prog 27 ⟨.func, 1, .nilFunc⟩ := ⟨⟨_, _, _, Tryz.underlying27⟩, info_two inf27⟩
theorem ok29 : TI.ok Tryz.prog 29 ⟨.func, 1, .nilFunc⟩ := ⟨⟨_, _, _, Tryz.underlying29⟩, info_two inf29⟩
theorem ok30 : TI.ok Tryz.prog 30 ⟨.slc 2 1 8 (.int .i64 0), 1, .slice none 0 0⟩ := ⟨⟨Tryz.underlying30, info_of inf2⟩, info_two inf30⟩
theorem ok31 : TI.ok Tryz.prog 31 ⟨.func, 1, .nilFunc⟩ := ⟨⟨_, _, _, Tryz.underlying31⟩, info_two inf31⟩
theorem ok32 : TI.ok Tryz.prog 32 ⟨.slc 9 1 16 (str []), 1, .slice none 0 0⟩ := ⟨⟨Tryz.underlying32, info_of inf9⟩, info_two inf32⟩
theorem ok34 : TI.ok Tryz.prog 34 ⟨.func, 1, .nilFunc⟩ := ⟨⟨_, _, _, Tryz.underlying34⟩, info_two inf34⟩
theorem ok35 : TI.ok Tryz.prog 35 ⟨.func, 1, .nilFunc⟩ := ⟨⟨_, _, _, Tryz.underlying35⟩, info_two inf35⟩
theorem ok37 : TI.ok Tryz.prog 37 ⟨.func, 1, .nilFunc⟩ := ⟨⟨_, _, _, Tryz.underlying37⟩, info_two inf37⟩
theorem ok38 : TI.ok Tryz.prog 38 ⟨.func, 1, .nilFunc⟩ := ⟨⟨_, _, _, Tryz.underlying38⟩, info_two inf38⟩
theorem ok39 : TI.ok Tryz.prog 39 ⟨.slc 30 1 24 (.slice none 0 0), 1, .slice none 0 0⟩ := ⟨⟨Tryz.underlying39, info_of inf30⟩, info_two inf39⟩
theorem ok41 : TI.ok Tryz.prog 41 ⟨.func, 1, .nilFunc⟩ := ⟨⟨_, _, _, Tryz.underlying41⟩, info_two inf41⟩
theorem ok42 : TI.ok Tryz.prog 42 ⟨.func, 1, .nilFunc⟩ := ⟨⟨_, _, _, Tryz.underlying42⟩, info_two inf42⟩
theorem ok43 : TI.ok Tryz.prog 43 ⟨.func, 1, .nilFunc⟩ := ⟨⟨_, _, _, Tryz.underlying43⟩, info_two inf43⟩
theorem ok44 : TI.ok Tryz.prog 44 ⟨.func, 1, .nilFunc⟩ := ⟨⟨_, _, _, Tryz.underlying44⟩, info_two inf44⟩
theorem ok45 : TI.ok Tryz.prog 45 ⟨.func, 1, .nilFunc⟩ := ⟨⟨_, _, _, Tryz.underlying45⟩, info_two inf45⟩
theorem ok46 : TI.ok Tryz.prog 46 ⟨.func, 1, .nilFunc⟩ := ⟨⟨_, _, _, Tryz.underlying46⟩, info_two inf46⟩
theorem ok47 : TI.ok Tryz.prog 47 ⟨.func, 1, .nilFunc⟩ := ⟨⟨_, _, _, Tryz.underlying47⟩, info_two inf47⟩
theorem ok49 : TI.ok Tryz.prog 49 ⟨.func, 1, .nilFunc⟩ := ⟨⟨_, _, _, Tryz.underlying49⟩, info_two inf49⟩
theorem ok50 : TI.ok Tryz.prog 50 ⟨.func, 1, .nilFunc⟩ := ⟨⟨_, _, _, Tryz.underlying50⟩, info_two inf50⟩
theorem ok52 : TI.ok Tryz.prog 52 ⟨.func, 1, .nilFunc⟩ := ⟨⟨_, _, _, Tryz.underlying52⟩, info_two inf52⟩
theorem ok53 : TI.ok Tryz.prog 53 ⟨.func, 1, .nilFunc⟩ := ⟨⟨_, _, _, Tryz.underlying53⟩, info_two inf53⟩
theorem ok54 : TI.ok Tryz.prog 54 ⟨.func, 1, .nilFunc⟩ := ⟨⟨_, _, _, Tryz.underlying54⟩, info_two inf54⟩
theorem ok55 : TI.ok Tryz.prog 55 ⟨.flat, 1, .pointer none⟩ := ⟨⟨_, Tryz.underlying55, rfl⟩, info_two inf55⟩
theorem ok56 : TI.ok Tryz.prog 56 ⟨.func, 1, .nilFunc⟩ := ⟨⟨_, _, _, Tryz.underlying56⟩, info_two inf56⟩
theorem ok57 : TI.ok Tryz.prog 57 ⟨.func, 1, .nilFunc⟩ := ⟨⟨_, _, _, Tryz.underlying57⟩, info_two inf57⟩
theorem ok58 : TI.ok Tryz.prog 58 ⟨.func, 1, .nilFunc⟩ := ⟨⟨_, _, _, Tryz.underlying58⟩, info_two inf58⟩
theorem ok59 : TI.ok Tryz.prog 59 ⟨.func, 1, .nilFunc⟩ := ⟨⟨_, _, _, Tryz.underlying59⟩, info_two inf59⟩
theorem ok60 : TI.ok Tryz.prog 60 ⟨.func, 1, .nilFunc⟩ := ⟨⟨_, _, _, Tryz.underlying60⟩, info_two inf60⟩
theorem ok61 : TI.ok Tryz.prog 61 ⟨.func, 1, .nilFunc⟩ := ⟨⟨_, _, _, Tryz.underlying61⟩, info_two inf61⟩
theorem ok62 : TI.ok Tryz.prog 62 ⟨.func, 1, .nilFunc⟩ := ⟨⟨_, _, _, Tryz.underlying62⟩, info_two inf62⟩
theorem ok63 : TI.ok Tryz.prog 63 ⟨.func, 1, .nilFunc⟩ := ⟨⟨_, _, _, Tryz.underlying63⟩, info_two inf63⟩
theorem ok64 : TI.ok Tryz.prog 64 ⟨.func, 1, .nilFunc⟩ := ⟨⟨_, _, _, Tryz.underlying64⟩, info_two inf64⟩
theorem ok65 : TI.ok Tryz.prog 65 ⟨.func, 1, .nilFunc⟩ := ⟨⟨_, _, _, Tryz.underlying65⟩, info_two inf65⟩
theorem ok66 : TI.ok Tryz.prog 66 ⟨.func, 1, .nilFunc⟩ := ⟨⟨_, _, _, Tryz.underlying66⟩, info_two inf66⟩
theorem ok67 : TI.ok Tryz.prog 67 ⟨.func, 1, .nilFunc⟩ := ⟨⟨_, _, _, Tryz.underlying67⟩, info_two inf67⟩
theorem ok68 : TI.ok Tryz.prog 68 ⟨.func, 1, .nilFunc⟩ := ⟨⟨_, _, _, Tryz.underlying68⟩, info_two inf68⟩
theorem ok69 : TI.ok Tryz.prog 69 ⟨.func, 1, .nilFunc⟩ := ⟨⟨_, _, _, Tryz.underlying69⟩, info_two inf69⟩
theorem ok70 : TI.ok Tryz.prog 70 ⟨.func, 1, .nilFunc⟩ := ⟨⟨_, _, _, Tryz.underlying70⟩, info_two inf70⟩
theorem ok71 : TI.ok Tryz.prog 71 ⟨.func, 1, .nilFunc⟩ := ⟨⟨_, _, _, Tryz.underlying71⟩, info_two inf71⟩
theorem ok72 : TI.ok Tryz.prog 72 ⟨.func, 1, .nilFunc⟩ := ⟨⟨_, _, _, Tryz.underlying72⟩, info_two inf72⟩
theorem ok73 : TI.ok Tryz.prog 73 ⟨.func, 1, .nilFunc⟩ := ⟨⟨_, _, _, Tryz.underlying73⟩, info_two inf73⟩
theorem ok74 : TI.ok Tryz.prog 74 ⟨.func, 1, .nilFunc⟩ := ⟨⟨_, _, _, Tryz.underlying74⟩, info_two inf74⟩
theorem ok75 : TI.ok Tryz.prog 75 ⟨.func, 1, .nilFunc⟩ := ⟨⟨_, _, _, Tryz.underlying75⟩, info_two inf75⟩
theorem ok76 : TI.ok Tryz.prog 76 ⟨.func, 1, .nilFunc⟩ := ⟨⟨_, _, _, Tryz.underlying76⟩, info_two inf76⟩
theorem ok77 : TI.ok Tryz.prog 77 ⟨.func, 1, .nilFunc⟩ := ⟨⟨_, _, _, Tryz.underlying77⟩, info_two inf77⟩
theorem ok78 : TI.ok Tryz.prog 78 ⟨.func, 1, .nilFunc⟩ := ⟨⟨_, _, _, Tryz.underlying78⟩, info_two inf78⟩
theorem ok79 : TI.ok Tryz.prog 79 ⟨.func, 1, .nilFunc⟩ := ⟨⟨_, _, _, Tryz.underlying79⟩, info_two inf79⟩
theorem ok80 : TI.ok Tryz.prog 80 ⟨.func, 1, .nilFunc⟩ := ⟨⟨_, _, _, Tryz.underlying80⟩, info_two inf80⟩
theorem ok81 : TI.ok Tryz.prog 81 ⟨.func, 1, .nilFunc⟩ := ⟨⟨_, _, _, Tryz.underlying81⟩, info_two inf81⟩
theorem ok82 : TI.ok Tryz.prog 82 ⟨.func, 1, .nilFunc⟩ := ⟨⟨_, _, _, Tryz.underlying82⟩, info_two inf82⟩
theorem ok83 : TI.ok Tryz.prog 83 ⟨.func, 1, .nilFunc⟩ := ⟨⟨_, _, _, Tryz.underlying83⟩, info_two inf83⟩
theorem ok84 : TI.ok Tryz.prog 84 ⟨.func, 1, .nilFunc⟩ := ⟨⟨_, _, _, Tryz.underlying84⟩, info_two inf84⟩
theorem ok85 : TI.ok Tryz.prog 85 ⟨.func, 1, .nilFunc⟩ := ⟨⟨_, _, _, Tryz.underlying85⟩, info_two inf85⟩
theorem ok86 : TI.ok Tryz.prog 86 ⟨.func, 1, .nilFunc⟩ := ⟨⟨_, _, _, Tryz.underlying86⟩, info_two inf86⟩
theorem ok87 : TI.ok Tryz.prog 87 ⟨.func, 1, .nilFunc⟩ := ⟨⟨_, _, _, Tryz.underlying87⟩, info_two inf87⟩
theorem ok89 : TI.ok Tryz.prog 89 ⟨.func, 1, .nilFunc⟩ := ⟨⟨_, _, _, Tryz.underlying89⟩, info_two inf89⟩
theorem ok90 : TI.ok Tryz.prog 90 ⟨.func, 1, .nilFunc⟩ := ⟨⟨_, _, _, Tryz.underlying90⟩, info_two inf90⟩
theorem ok91 : TI.ok Tryz.prog 91 ⟨.func, 1, .nilFunc⟩ := ⟨⟨_, _, _, Tryz.underlying91⟩, info_two inf91⟩
theorem ok92 : TI.ok Tryz.prog 92 ⟨.slc 4 1 1 (.bool false), 1, .slice none 0 0⟩ := ⟨⟨Tryz.underlying92, info_of inf4⟩, info_two inf92⟩
theorem ok93 : TI.ok Tryz.prog 93 ⟨.int .u64, 1, .int .u64 0⟩ := ⟨Tryz.underlying93, info_two inf93⟩
theorem ok94 : TI.ok Tryz.prog 94 ⟨.strct [(0, 1, false), (1, 1, false), (2, 1, false)], 3, .agg #[.slice none 0 0, .int .i64 0, .int .u64 0]⟩ := ⟨⟨_, Tryz.underlying94, by kernel_rfl, by
    intro f hf
    simp only [List.mem_cons, List.not_mem_nil, or_false] at hf
    (first | (rcases hf with rfl | rfl | rfl) | (obtain rfl := hf)) <;> exact ⟨by kernel_rfl, by kernel_rfl⟩⟩, info_two inf94⟩
theorem ok95 : TI.ok Tryz.prog 95 ⟨.strct [(0, 1, false), (1, 1, false), (2, 1, false)], 3, .agg #[.slice none 0 0, .int .i64 0, .int .u64 0]⟩ := ⟨⟨_, Tryz.underlying95, by kernel_rfl, by
    intro f hf
    simp only [List.mem_cons, List.not_mem_nil, or_false] at hf
    (first | (rcases hf with rfl | rfl | rfl) | (obtain rfl := hf)) <;> exact ⟨by kernel_rfl, by kernel_rfl⟩⟩, info_two inf95⟩
theorem ok96 : TI.ok Tryz.prog 96 ⟨.func, 1, .nilFunc⟩ := ⟨⟨_, _, _, Tryz.underlying96⟩, info_two inf96⟩
theorem ok97 : TI.ok Tryz.prog 97 ⟨.func, 1, .nilFunc⟩ := ⟨⟨_, _, _, Tryz.underlying97⟩, info_two inf97⟩
theorem ok98 : TI.ok Tryz.prog 98 ⟨.int .u64, 1, .int .u64 0⟩ := ⟨Tryz.underlying98, info_two inf98⟩
theorem ok99 : TI.ok Tryz.prog 99 ⟨.func, 1, .nilFunc⟩ := ⟨⟨_, _, _, Tryz.underlying99⟩, info_two inf99⟩
theorem ok100 : TI.ok Tryz.prog 100 ⟨.func, 1, .nilFunc⟩ := ⟨⟨_, _, _, Tryz.underlying100⟩, info_two inf100⟩
theorem ok101 : TI.ok Tryz.prog 101 ⟨.func, 1, .nilFunc⟩ := ⟨⟨_, _, _, Tryz.underlying101⟩, info_two inf101⟩
theorem ok102 : TI.ok Tryz.prog 102 ⟨.func, 1, .nilFunc⟩ := ⟨⟨_, _, _, Tryz.underlying102⟩, info_two inf102⟩
theorem ok103 : TI.ok Tryz.prog 103 ⟨.func, 1, .nilFunc⟩ := ⟨⟨_, _, _, Tryz.underlying103⟩, info_two inf103⟩
theorem ok104 : TI.ok Tryz.prog 104 ⟨.func, 1, .nilFunc⟩ := ⟨⟨_, _, _, Tryz.underlying104⟩, info_two inf104⟩
theorem ok105 : TI.ok Tryz.prog 105 ⟨.func, 1, .nilFunc⟩ := ⟨⟨_, _, _, Tryz.underlying105⟩, info_two inf105⟩
theorem ok106 : TI.ok Tryz.prog 106 ⟨.func, 1, .nilFunc⟩ := ⟨⟨_, _, _, Tryz.underlying106⟩, info_two inf106⟩
theorem ok107 : TI.ok Tryz.prog 107 ⟨.func, 1, .nilFunc⟩ := ⟨⟨_, _, _, Tryz.underlying107⟩, info_two inf107⟩
theorem ok108 : TI.ok Tryz.prog 108 ⟨.func, 1, .nilFunc⟩ := ⟨⟨_, _, _, Tryz.underlying108⟩, info_two inf108⟩
theorem ok109 : TI.ok Tryz.prog 109 ⟨.func, 1, .nilFunc⟩ := ⟨⟨_, _, _, Tryz.underlying109⟩, info_two inf109⟩
theorem ok110 : TI.ok Tryz.prog 110 ⟨.func, 1, .nilFunc⟩ := ⟨⟨_, _, _, Tryz.underlying110⟩, info_two inf110⟩
theorem ok111 : TI.ok Tryz.prog 111 ⟨.func, 1, .nilFunc⟩ := ⟨⟨_, _, _, Tryz.underlying111⟩, info_two inf111⟩
theorem ok112 : TI.ok Tryz.prog 112 ⟨.func, 1, .nilFunc⟩ := ⟨⟨_, _, _, Tryz.underlying112⟩, info_two inf112⟩
theorem ok113 : TI.ok Tryz.prog 113 ⟨.int .i64, 1, .int .i64 0⟩ := ⟨Tryz.underlying113, info_two inf113⟩
theorem ok115 : TI.ok Tryz.prog 115 ⟨.func, 1, .nilFunc⟩ := ⟨⟨_, _, _, Tryz.underlying115⟩, info_two inf115⟩
theorem ok116 : TI.ok Tryz.prog 116 ⟨.func, 1, .nilFunc⟩ := ⟨⟨_, _, _, Tryz.underlying116⟩, info_two inf116⟩
theorem ok117 : TI.ok Tryz.prog 117 ⟨.func, 1, .nilFunc⟩ := ⟨⟨_, _, _, Tryz.underlying117⟩, info_two inf117⟩
theorem ok118 : TI.ok Tryz.prog 118 ⟨.func, 1, .nilFunc⟩ := ⟨⟨_, _, _, Tryz.underlying118⟩, info_two inf118⟩
theorem ok120 : TI.ok Tryz.prog 120 ⟨.func, 1, .nilFunc⟩ := ⟨⟨_, _, _, Tryz.underlying120⟩, info_two inf120⟩
theorem ok121 : TI.ok Tryz.prog 121 ⟨.func, 1, .nilFunc⟩ := ⟨⟨_, _, _, Tryz.underlying121⟩, info_two inf121⟩
theorem ok122 : TI.ok Tryz.prog 122 ⟨.int .u32, 1, .int .u32 0⟩ := ⟨Tryz.underlying122, info_two inf122⟩
theorem ok123 : TI.ok Tryz.prog 123 ⟨.func, 1, .nilFunc⟩ := ⟨⟨_, _, _, Tryz.underlying123⟩, info_two inf123⟩
theorem ok124 : TI.ok Tryz.prog 124 ⟨.func, 1, .nilFunc⟩ := ⟨⟨_, _, _, Tryz.underlying124⟩, info_two inf124⟩
theorem ok125 : TI.ok Tryz.prog 125 ⟨.func, 1, .nilFunc⟩ := ⟨⟨_, _, _, Tryz.underlying125⟩, info_two inf125⟩
theorem ok126 : TI.ok Tryz.prog 126 ⟨.func, 1, .nilFunc⟩ := ⟨⟨_, _, _, Tryz.underlying126⟩, info_two inf126⟩
theorem ok127 : TI.ok Tryz.prog 127 ⟨.func, 1, .nilFunc⟩ := ⟨⟨_, _, _, Tryz.underlying127⟩, info_two inf127⟩
theorem ok128 : TI.ok Tryz.prog 128 ⟨.func, 1, .nilFunc⟩ := ⟨⟨_, _, _, Tryz.underlying128⟩, info_two inf128⟩
theorem ok129 : TI.ok Tryz.prog 129 ⟨.func, 1, .nilFunc⟩ := ⟨⟨_, _, _, Tryz.underlying129⟩, info_two inf129⟩
theorem ok130 : TI.ok Tryz.prog 130 ⟨.func, 1, .nilFunc⟩ := ⟨⟨_, _, _, Tryz.underlying130⟩, info_two inf130⟩
theorem ok131 : TI.ok Tryz.prog 131 ⟨.func, 1, .nilFunc⟩ := ⟨⟨_, _, _, Tryz.underlying131⟩, info_two inf131⟩
theorem ok132 : TI.ok Tryz.prog 132 ⟨.func, 1, .nilFunc⟩ := ⟨⟨_, _, _, Tryz.underlying132⟩, info_two inf132⟩
theorem ok133 : TI.ok Tryz.prog 133 ⟨.func, 1, .nilFunc⟩ := ⟨⟨_, _, _, Tryz.underlying133⟩, info_two inf133⟩
theorem ok134 : TI.ok Tryz.prog 134 ⟨.func, 1, .nilFunc⟩ := ⟨⟨_, _, _, Tryz.underlying134⟩, info_two inf134⟩
theorem ok135 : TI.ok Tryz.prog 135 ⟨.func, 1, .nilFunc⟩ := ⟨⟨_, _, _, Tryz.underlying135⟩, info_two inf135⟩
theorem ok136 : TI.ok Tryz.prog 136 ⟨.int .u64, 1, .int .u64 0⟩ := ⟨Tryz.underlying136, info_two inf136⟩
theorem ok137 : TI.ok Tryz.prog 137 ⟨.func, 1, .nilFunc⟩ := ⟨⟨_, _, _, Tryz.underlying137⟩, info_two inf137⟩
theorem ok138 : TI.ok Tryz.prog 138 ⟨.func, 1, .nilFunc⟩ := ⟨⟨_, _, _, Tryz.underlying138⟩, info_two inf138⟩
theorem ok139 : TI.ok Tryz.prog 139 ⟨.func, 1, .nilFunc⟩ := ⟨⟨_, _, _, Tryz.underlying139⟩, info_two inf139⟩
theorem ok140 : TI.ok Tryz.prog 140 ⟨.flat, 1, .pointer none⟩ := ⟨⟨_, Tryz.underlying140, rfl⟩, info_two inf140⟩
theorem ok141 : TI.ok Tryz.prog 141 ⟨.func, 1, .nilFunc⟩ := ⟨⟨_, _, _, Tryz.underlying141⟩, info_two inf141⟩
theorem ok142 : TI.ok Tryz.prog 142 ⟨.func, 1, .nilFunc⟩ := ⟨⟨_, _, _, Tryz.underlying142⟩, info_two inf142⟩
theorem ok143 : TI.ok Tryz.prog 143 ⟨.func, 1, .nilFunc⟩ := ⟨⟨_, _, _, Tryz.underlying143⟩, info_two inf143⟩
theorem ok144 : TI.ok Tryz.prog 144 ⟨.func, 1, .nilFunc⟩ := ⟨⟨_, _, _, Tryz.underlying144⟩, info_two inf144⟩
theorem ok145 : TI.ok Tryz.prog 145 ⟨.func, 1, .nilFunc⟩ := ⟨⟨_, _, _, Tryz.underlying145⟩, info_two inf145⟩
theorem ok146 : TI.ok Tryz.prog 146 ⟨.func, 1, .nilFunc⟩ := ⟨⟨_, _, _, Tryz.underlying146⟩, info_two inf146⟩
theorem ok147 : TI.ok Tryz.prog 147 ⟨.flat, 1, .pointer none⟩ := ⟨⟨_, Tryz.underlying147, rfl⟩, info_two inf147⟩
theorem ok149 : TI.ok Tryz.prog 149 ⟨.func, 1, .nilFunc⟩ := ⟨⟨_, _, _, Tryz.underlying149⟩, info_two inf149⟩
theorem ok150 : TI.ok Tryz.prog 150 ⟨.func, 1, .nilFunc⟩ := ⟨⟨_, _, _, Tryz.underlying150⟩, info_two inf150⟩
theorem ok151 : TI.ok Tryz.prog 151 ⟨.func, 1, .nilFunc⟩ := ⟨⟨_, _, _, Tryz.underlying151⟩, info_two inf151⟩
theorem ok152 : TI.ok Tryz.prog 152 ⟨.func, 1, .nilFunc⟩ := ⟨⟨_, _, _, Tryz.underlying152⟩, info_two inf152⟩
theorem ok153 : TI.ok Tryz.prog 153 ⟨.strct [(0, 1, false), (1, 1, false), (2, 1, false), (3, 1, false)], 4, .agg #[.pointer none, .pointer none, .pointer none, str []]⟩ := ⟨⟨_, Tryz.underlying153, by kernel_rfl, by
    intro f hf
    simp only [List.mem_cons, List.not_mem_nil, or_false] at hf
    (first | (rcases hf with rfl | rfl | rfl | rfl) | (obtain rfl := hf)) <;> exact ⟨by kernel_rfl, by kernel_rfl⟩⟩, info_two inf153⟩
theorem ok154 : TI.ok Tryz.prog 154 ⟨.strct [(0, 1, false), (1, 1, false), (2, 1, false), (3, 1, false)], 4, .agg #[.pointer none, .pointer none, .pointer none, str []]⟩ := ⟨⟨_, Tryz.underlying154, by kernel_rfl, by
    intro f hf
    simp only [List.mem_cons, List.not_mem_nil, or_false] at hf
    (first | (rcases hf with rfl | rfl | rfl | rfl) | (obtain rfl := hf)) <;> exact ⟨by kernel_rfl, by kernel_rfl⟩⟩, info_two inf154⟩
theorem ok155 : TI.ok Tryz.prog 155 ⟨.arr 0 1 false, 0, .agg #[]⟩ := ⟨⟨_, Tryz.underlying155, (let ⟨I, a, b, _⟩ := info_of inf16; ⟨I, a, b⟩), by kernel_rfl, by kernel_rfl⟩, info_two inf155⟩
theorem ok156 : TI.ok Tryz.prog 156 ⟨.strct [(0, 0, true)], 0, .agg #[]⟩ := ⟨⟨_, Tryz.underlying156, by kernel_rfl, by
    intro f hf
    simp only [List.mem_cons, List.not_mem_nil, or_false] at hf
    (first | (rcases hf with rfl) | (obtain rfl := hf)) <;> exact ⟨by kernel_rfl, by kernel_rfl⟩⟩, info_two inf156⟩
theorem ok157 : TI.ok Tryz.prog 157 ⟨.strct [(0, 0, true)], 0, .agg #[]⟩ := ⟨⟨_, Tryz.underlying157, by kernel_rfl, by
    intro f hf
    simp only [List.mem_cons, List.not_mem_nil, or_false] at hf
    (first | (rcases hf with rfl) | (obtain rfl := hf)) <;> exact ⟨by kernel_rfl, by kernel_rfl⟩⟩, info_two inf157⟩
theorem ok158 : TI.ok Tryz.prog 158 ⟨.func, 1, .nilFunc⟩ := ⟨⟨_, _, _, Tryz.underlying158⟩, info_two inf158⟩
theorem ok159 : TI.ok Tryz.prog 159 ⟨.int .u8, 1, .int .u8 0⟩ := ⟨Tryz.underlying159, info_two inf159⟩
theorem ok160 : TI.ok Tryz.prog 160 ⟨.int .u8, 1, .int .u8 0⟩ := ⟨Tryz.underlying160, info_two inf160⟩
theorem ok161 : TI.ok Tryz.prog 161 ⟨.func, 1, .nilFunc⟩ := ⟨⟨_, _, _, Tryz.underlying161⟩, info_two inf161⟩
theorem ok162 : TI.ok Tryz.prog 162 ⟨.flat, 1, .pointer none⟩ := ⟨⟨_, Tryz.underlying162, rfl⟩, info_two inf162⟩
theorem ok163 : TI.ok Tryz.prog 163 ⟨.int .i32, 1, .int .i32 0⟩ := ⟨Tryz.underlying163, info_two inf163⟩
theorem ok164 : TI.ok Tryz.prog 164 ⟨.int .i32, 1, .int .i32 0⟩ := ⟨Tryz.underlying164, info_two inf164⟩
theorem ok165 : TI.ok Tryz.prog 165 ⟨.strct [(0, 1, false), (1, 1, false), (2, 1, false), (3, 1, false), (4, 1, false), (5, 1, false), (6, 1, false), (7, 1, false), (8, 1, false), (9, 1, false), (10, 1, false)], 11, .agg #[.int .u64 0, .int .u64 0, .int .u32 0, .int .u8 0, .int .u8 0, .int .u8 0, .int .u8 0, .nilFunc, .pointer none, .int .i32 0, .int .i32 0]⟩ := ⟨⟨_, Tryz.underlying165, by kernel_rfl, by
    intro f hf
    simp only [List.mem_cons, List.not_mem_nil, or_false] at hf
    (first | (rcases hf with rfl | rfl | rfl | rfl | rfl | rfl | rfl | rfl | rfl | rfl | rfl) | (obtain rfl := hf)) <;> exact ⟨by kernel_rfl, by kernel_rfl⟩⟩, info_two inf165⟩
theorem ok166 : TI.ok Tryz.prog 166 ⟨.strct [(0, 1, false), (1, 1, false), (2, 1, false), (3, 1, false), (4, 1, false), (5, 1, false), (6, 1, false), (7, 1, false), (8, 1, false), (9, 1, false), (10, 1, false)], 11, .agg #[.int .u64 0, .int .u64 0, .int .u32 0, .int .u8 0, .int .u8 0, .int .u8 0, .int .u8 0, .nilFunc, .pointer none, .int .i32 0, .int .i32 0]⟩ := ⟨⟨_, Tryz.underlying166, by kernel_rfl, by
    intro f hf
    simp only [List.mem_cons, List.not_mem_nil, or_false] at hf
    (first | (rcases hf with rfl | rfl | rfl | rfl | rfl | rfl | rfl | rfl | rfl | rfl | rfl) | (obtain rfl := hf)) <;> exact ⟨by kernel_rfl, by kernel_rfl⟩⟩, info_two inf166⟩
set_option maxRecDepth 100000 in
theorem tabP0_ok : TabOk Tryz.prog tabP0 := by
  intro t i h
  unfold tabP0 at h
  split at h
  · injection h with h; subst h; exact ok1
  · injection h with h; subst h; exact ok2
  · injection h with h; subst h; exact ok3
  · injection h with h; subst h; exact ok4
  · injection h with h; subst h; exact ok5
  · injection h with h; subst h; exact ok6
  · injection h with h; subst h; exact ok7
  · injection h with h; subst h; exact ok8
  · injection h with h; subst h; exact ok9
  · injection h with h; subst h; exact ok10
  · injection h with h; subst h; exact ok11
  · injection h with h; subst h; exact ok12
  · injection h with h; subst h; exact ok13
  · injection h with h; subst h; exact ok14
  · injection h with h; subst h; exact ok15
  · injection h with h; subst h; exact ok16
  · injection h with h; subst h; exact ok17
  · injection h with h; subst h; exact ok18
  · injection h with h; subst h; exact ok19
  · injection h with h; subst h; exact ok20
  · injection h with h; subst h; exact ok21
  · injection h with h; subst h; exact ok22
  · injection h with h; subst h; exact ok23
  · injection h with h; subst h; exact ok25
  · injection h with h; subst h; exact ok27
  · injection h with h; subst h; exact ok29
  · injection h with h; subst h; exact ok30
  · injection h with h; subst h; exact ok31
  · injection h with h; subst h; exact ok32
  · injection h with h; subst h; exact ok34
  · injection h with h; subst h; exact ok35
  · injection h with h; subst h; exact ok37
  · injection h with h; subst h; exact ok38
  · injection h with h; subst h; exact ok39
  · injection h with h; subst h; exact ok41
  · injection h with h; subst h; exact ok42
  · injection h with h; subst h; exact ok43
  · injection h with h; subst h; exact ok44
  · injection h with h; subst h; exact ok45
  · injection h with h; subst h; exact ok46
  · injection h with h; subst h; exact ok47
  · injection h with h; subst h; exact ok49
  · injection h with h; subst h; exact ok50
  · injection h with h; subst h; exact ok52
  · injection h with h; subst h; exact ok53
  · injection h with h; subst h; exact ok54
  · injection h with h; subst h; exact ok55
  · injection h with h; subst h; exact ok56
  · injection h with h; subst h; exact ok57
  · injection h with h; subst h; exact ok58
  · injection h with h; subst h; exact ok59
  · injection h with h; subst h; exact ok60
  · injection h with h; subst h; exact ok61
  · injection h with h; subst h; exact ok62
  · injection h with h; subst h; exact ok63
  · injection h with h; subst h; exact ok64
  · injection h with h; subst h; exact ok65
  · injection h with h; subst h; exact ok66
  · injection h with h; subst h; exact ok67
  · injection h with h; subst h; exact ok68
  · cases h
set_option maxRecDepth 100000 in
theorem tabP1_ok : TabOk Tryz.prog tabP1 := by
  intro t i h
  unfold tabP1 at h
  split at h
  · injection h with h; subst h; exact ok69
  · injection h with h; subst h; exact ok70
  · injection h with h; subst h; exact ok71
  · injection h with h; subst h; exact ok72
  · injection h with h; subst h; exact ok73
  · injection h with h; subst h; exact ok74
  · injection h with h; subst h; exact ok75
  · injection h with h; subst h; exact ok76
  · injection h with h; subst h; exact ok77
  · injection h with h; subst h; exact ok78
  · injection h with h; subst h; exact ok79
  · injection h with h; subst h; exact ok80
  · injection h with h; subst h; exact ok81
  · injection h with h; subst h; exact ok82
  · injection h with h; subst h; exact ok83
  · injection h with h; subst h; exact ok84
  · injection h with h; subst h; exact ok85
  · injection h with h; subst h; exact ok86
  · injection h with h; subst h; exact ok87
  · injection h with h; subst h; exact ok89
  · injection h with h; subst h; exact ok90
  · injection h with h; subst h; exact ok91
  · injection h with h; subst h; exact ok92
  · injection h with h; subst h; exact ok93
  · injection h with h; subst h; exact ok94
  · injection h with h; subst h; exact ok95
  · injection h with h; subst h; exact ok96
  · injection h with h; subst h; exact ok97
  · injection h with h; subst h; exact ok98
  · injection h with h; subst h; exact ok99
  · injection h with h; subst h; exact ok100
  · injection h with h; subst h; exact ok101
  · injection h with h; subst h; exact ok102
  · injection h with h; subst h; exact ok103
  · injection h with h; subst h; exact ok104
  · injection h with h; subst h; exact ok105
  · injection h with h; subst h; exact ok106
  · injection h with h; subst h; exact ok107
  · injection h with h; subst h; exact ok108
  · injection h with h; subst h; exact ok109
  · injection h with h; subst h; exact ok110
  · injection h with h; subst h; exact ok111
  · injection h with h; subst h; exact ok112
  · injection h with h; subst h; exact ok113
  · injection h with h; subst h; exact ok115
  · injection h with h; subst h; exact ok116
  · injection h with h; subst h; exact ok117
  · injection h with h; subst h; exact ok118
  · injection h with h; subst h; exact ok120
  · injection h with h; subst h; exact ok121
  · injection h with h; subst h; exact ok122
  · injection h with h; subst h; exact ok123
  · injection h with h; subst h; exact ok124
  · injection h with h; subst h; exact ok125
  · injection h with h; subst h; exact ok126
  · injection h with h; subst h; exact ok127
  · injection h with h; subst h; exact ok128
  · injection h with h; subst h; exact ok129
  · injection h with h; subst h; exact ok130
  · injection h with h; subst h; exact ok131
  · cases h
set_option maxRecDepth 100000 in
theorem tabP2_ok : TabOk Tryz.prog tabP2 := by
  intro t i h
  unfold tabP2 at h
  split at h
  · injection h with h; subst h; exact ok132
  · injection h with h; subst h; exact ok133
  · injection h with h; subst h; exact ok134
  · injection h with h; subst h; exact ok135
  · injection h with h; subst h; exact ok136
  · injection h with h; subst h; exact ok137
  · injection h with h; subst h; exact ok138
  · injection h with h; subst h; exact ok139
  · injection h with h; subst h; exact ok140
  · injection h with h; subst h; exact ok141
  · injection h with h; subst h; exact ok142
  · injection h with h; subst h; exact ok143
  · injection h with h; subst h; exact ok144
  · injection h with h; subst h; exact ok145
  · injection h with h; subst h; exact ok146
  · injection h with h; subst h; exact ok147
  · injection h with h; subst h; exact ok149
  · injection h with h; subst h; exact ok150
  · injection h with h; subst h; exact ok151
  · injection h with h; subst h; exact ok152
  · injection h with h; subst h; exact ok153
  · injection h with h; subst h; exact ok154
  · injection h with h; subst h; exact ok155
  · injection h with h; subst h; exact ok156
  · injection h with h; subst h; exact ok157
  · injection h with h; subst h; exact ok158
  · injection h with h; subst h; exact ok159
  · injection h with h; subst h; exact ok160
  · injection h with h; subst h; exact ok161
  · injection h with h; subst h; exact ok162
  · injection h with h; subst h; exact ok163
  · injection h with h; subst h; exact ok164
  · injection h with h; subst h; exact ok165
  · injection h with h; subst h; exact ok166
  · cases h
theorem tab_ok : TabOk Tryz.prog tab := by
  intro t i h
  unfold tab at h
  split at h
  · exact tabP0_ok t i h
  split at h
  · exact tabP1_ok t i h
  exact tabP2_ok t i h
end Go.Proofs.YthpcojnpiggaiaaGreat
