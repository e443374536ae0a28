/- The types of the translation, as our calculus tells them. -/
import Derived.Test.YticejlplbibegaaEA
import Derived.Test.YticejlplbibegaaProg
import Derived.KernelRfl
namespace Go.Proofs.Yticejlplbibegaa
open Go
def tabP0 : Tab := fun t => match t with
  | 1 => some ⟨.func, 1, .nilFunc⟩
  | 2 => some ⟨.int .i64, 1, .int .i64 0⟩
  | 3 => some ⟨.int .i64, 1, .int .i64 0⟩
  | 4 => some ⟨.bool, 1, .bool false⟩
  | 5 => some ⟨.int .u8, 1, .int .u8 0⟩
  | 6 => some ⟨.int .u8, 1, .int .u8 0⟩
  | 7 => some ⟨.strct [(0, 1, false), (1, 1, false), (2, 1, false), (3, 1, false)], 4, .agg #[.int .i64 0, .int .i64 0, .bool false, .int .u8 0]⟩
  | 8 => some ⟨.strct [(0, 1, false), (1, 1, false), (2, 1, false), (3, 1, false)], 4, .agg #[.int .i64 0, .int .i64 0, .bool false, .int .u8 0]⟩
  | 9 => some ⟨.str, 1, str []⟩
  | 10 => some ⟨.str, 1, str []⟩
  | 11 => some ⟨.str, 1, str []⟩
  | 12 => some ⟨.int .u64, 1, .int .u64 0⟩
  | 13 => some ⟨.strct [(0, 1, false), (1, 1, false)], 2, .agg #[str [], .int .u64 0]⟩
  | 14 => some ⟨.strct [(0, 1, false), (1, 1, false)], 2, .agg #[str [], .int .u64 0]⟩
  | 15 => some ⟨.flat, 1, .pointer none⟩
  | 16 => some ⟨.flat, 1, .pointer none⟩
  | 17 => some ⟨.flat, 1, .pointer none⟩
  | 18 => some ⟨.strct [(0, 1, false)], 1, .agg #[.pointer none]⟩
  | 19 => some ⟨.strct [(0, 1, false)], 1, .agg #[.pointer none]⟩
  | 20 => some ⟨.iface, 1, .nilIface⟩
  | 21 => some ⟨.int .i32, 1, .int .i32 0⟩
  | 23 => some ⟨.func, 1, .nilFunc⟩
  | 24 => some ⟨.func, 1, .nilFunc⟩
  | 25 => some ⟨.slc 5 1 1 (.int .u8 0), 1, .slice none 0 0⟩
  | 26 => some ⟨.func, 1, .nilFunc⟩
  | 28 => some ⟨.func, 1, .nilFunc⟩
  | 30 => some ⟨.func, 1, .nilFunc⟩
  | 32 => some ⟨.func, 1, .nilFunc⟩
  | 33 => some ⟨.func, 1, .nilFunc⟩
  | 34 => some ⟨.func, 1, .nilFunc⟩
  | 35 => some ⟨.func, 1, .nilFunc⟩
  | 36 => some ⟨.func, 1, .nilFunc⟩
  | 37 => some ⟨.func, 1, .nilFunc⟩
  | 38 => some ⟨.func, 1, .nilFunc⟩
  | 39 => some ⟨.int .u64, 1, .int .u64 0⟩
  | 40 => some ⟨.slc 4 1 1 (.bool false), 1, .slice none 0 0⟩
  | 41 => some ⟨.func, 1, .nilFunc⟩
  | 42 => some ⟨.func, 1, .nilFunc⟩
  | 43 => some ⟨.func, 1, .nilFunc⟩
  | 44 => some ⟨.func, 1, .nilFunc⟩
  | 45 => some ⟨.func, 1, .nilFunc⟩
  | 46 => some ⟨.func, 1, .nilFunc⟩
  | 47 => some ⟨.func, 1, .nilFunc⟩
  | 48 => some ⟨.func, 1, .nilFunc⟩
  | 49 => some ⟨.flat, 1, .pointer none⟩
  | 50 => some ⟨.func, 1, .nilFunc⟩
  | 51 => some ⟨.func, 1, .nilFunc⟩
  | 52 => some ⟨.func, 1, .nilFunc⟩
  | 53 => some ⟨.func, 1, .nilFunc⟩
  | 54 => some ⟨.func, 1, .nilFunc⟩
  | 55 => some ⟨.func, 1, .nilFunc⟩
  | 56 => some ⟨.func, 1, .nilFunc⟩
  | 57 => some ⟨.func, 1, .nilFunc⟩
  | 59 => some ⟨.func, 1, .nilFunc⟩
  | 60 => some ⟨.func, 1, .nilFunc⟩
  | 61 => some ⟨.func, 1, .nilFunc⟩
  | 62 => some ⟨.func, 1, .nilFunc⟩
  | 63 => some ⟨.func, 1, .nilFunc⟩
  | 64 => some ⟨.func, 1, .nilFunc⟩
  | 65 => some ⟨.func, 1, .nilFunc⟩
  | _ => none
def tabP1 : Tab := fun t => match t with
  | 66 => some ⟨.func, 1, .nilFunc⟩
  | 67 => some ⟨.strct [(0, 1, false), (1, 1, false), (2, 1, false)], 3, .agg #[.slice none 0 0, .int .i64 0, .int .u64 0]⟩
  | 68 => some ⟨.strct [(0, 1, false), (1, 1, false), (2, 1, false)], 3, .agg #[.slice none 0 0, .int .i64 0, .int .u64 0]⟩
  | 69 => some ⟨.slc 9 1 16 (str []), 1, .slice none 0 0⟩
  | 70 => some ⟨.slc 2 1 8 (.int .i64 0), 1, .slice none 0 0⟩
  | 71 => some ⟨.func, 1, .nilFunc⟩
  | 72 => some ⟨.func, 1, .nilFunc⟩
  | 73 => some ⟨.func, 1, .nilFunc⟩
  | 74 => some ⟨.int .u64, 1, .int .u64 0⟩
  | 75 => some ⟨.func, 1, .nilFunc⟩
  | 76 => some ⟨.arr 3 1 false, 3, .agg #[str [], str [], str []]⟩
  | 77 => some ⟨.func, 1, .nilFunc⟩
  | 78 => some ⟨.func, 1, .nilFunc⟩
  | 80 => some ⟨.func, 1, .nilFunc⟩
  | 81 => some ⟨.func, 1, .nilFunc⟩
  | 82 => some ⟨.int .i64, 1, .int .i64 0⟩
  | 84 => some ⟨.func, 1, .nilFunc⟩
  | 85 => some ⟨.func, 1, .nilFunc⟩
  | 86 => some ⟨.func, 1, .nilFunc⟩
  | 87 => some ⟨.func, 1, .nilFunc⟩
  | 89 => some ⟨.func, 1, .nilFunc⟩
  | 90 => some ⟨.func, 1, .nilFunc⟩
  | 91 => some ⟨.int .u32, 1, .int .u32 0⟩
  | 92 => some ⟨.func, 1, .nilFunc⟩
  | 93 => some ⟨.int .u64, 1, .int .u64 0⟩
  | 94 => some ⟨.func, 1, .nilFunc⟩
  | 95 => some ⟨.func, 1, .nilFunc⟩
  | 96 => some ⟨.func, 1, .nilFunc⟩
  | 97 => some ⟨.flat, 1, .pointer none⟩
  | 98 => some ⟨.func, 1, .nilFunc⟩
  | 99 => some ⟨.flat, 1, .pointer none⟩
  | 101 => some ⟨.func, 1, .nilFunc⟩
  | 102 => some ⟨.func, 1, .nilFunc⟩
  | 103 => some ⟨.strct [(0, 1, false), (1, 1, false), (2, 1, false), (3, 1, false)], 4, .agg #[.pointer none, .pointer none, .pointer none, str []]⟩
  | 104 => some ⟨.strct [(0, 1, false), (1, 1, false), (2, 1, false), (3, 1, false)], 4, .agg #[.pointer none, .pointer none, .pointer none, str []]⟩
  | 105 => some ⟨.arr 0 1 false, 0, .agg #[]⟩
  | 106 => some ⟨.strct [(0, 0, true)], 0, .agg #[]⟩
  | 107 => some ⟨.strct [(0, 0, true)], 0, .agg #[]⟩
  | 108 => some ⟨.func, 1, .nilFunc⟩
  | 109 => some ⟨.int .u8, 1, .int .u8 0⟩
  | 110 => some ⟨.int .u8, 1, .int .u8 0⟩
  | 111 => some ⟨.func, 1, .nilFunc⟩
  | 112 => some ⟨.flat, 1, .pointer none⟩
  | 113 => some ⟨.int .i32, 1, .int .i32 0⟩
  | 114 => some ⟨.int .i32, 1, .int .i32 0⟩
  | 115 => some ⟨.strct [(0, 1, false), (1, 1, false), (2, 1, false), (3, 1, false), (4, 1, false), (5, 1, false), (6, 1, false), (7, 1, false), (8, 1, false), (9, 1, false), (10, 1, false)], 11, .agg #[.int .u64 0, .int .u64 0, .int .u32 0, .int .u8 0, .int .u8 0, .int .u8 0, .int .u8 0, .nilFunc, .pointer none, .int .i32 0, .int .i32 0]⟩
  | 116 => some ⟨.strct [(0, 1, false), (1, 1, false), (2, 1, false), (3, 1, false), (4, 1, false), (5, 1, false), (6, 1, false), (7, 1, false), (8, 1, false), (9, 1, false), (10, 1, false)], 11, .agg #[.int .u64 0, .int .u64 0, .int .u32 0, .int .u8 0, .int .u8 0, .int .u8 0, .int .u8 0, .nilFunc, .pointer none, .int .i32 0, .int .i32 0]⟩
  | _ => none
def tab : Tab := fun t => if t < 66 then tabP0 t else tabP1 t
@[simp] theorem tab1 : tab 1 = some ⟨.func, 1, .nilFunc⟩ := rfl
@[simp] theorem tab2 : tab 2 = some ⟨.int .i64, 1, .int .i64 0⟩ := rfl
@[simp] theorem tab3 : tab 3 = some ⟨.int .i64, 1, .int .i64 0⟩ := rfl
@[simp] theorem tab4 : tab 4 = some ⟨.bool, 1, .bool false⟩ := rfl
@[simp] theorem tab5 : tab 5 = some ⟨.int .u8, 1, .int .u8 0⟩ := rfl
@[simp] theorem tab6 : tab 6 = some ⟨.int .u8, 1, .int .u8 0⟩ := rfl
@[simp] theorem tab7 : tab 7 = some ⟨.strct [(0, 1, false), (1, 1, false), (2, 1, false), (3, 1, false)], 4, .agg #[.int .i64 0, .int .i64 0, .bool false, .int .u8 0]⟩ := rfl
@[simp] theorem tab8 : tab 8 = some ⟨.strct [(0, 1, false), (1, 1, false), (2, 1, false), (3, 1, false)], 4, .agg #[.int .i64 0, .int .i64 0, .bool false, .int .u8 0]⟩ := rfl
@[simp] theorem tab9 : tab 9 = some ⟨.str, 1, str []⟩ := rfl
@[simp] theorem tab10 : tab 10 = some ⟨.str, 1, str []⟩ := rfl
@[simp] theorem tab11 : tab 11 = some ⟨.str, 1, str []⟩ := rfl
@[simp] theorem tab12 : tab 12 = some ⟨.int .u64, 1, .int .u64 0⟩ := rfl
@[simp] theorem tab13 : tab 13 = some ⟨.strct [(0, 1, false), (1, 1, false)], 2, .agg #[str [], .int .u64 0]⟩ := rfl
@[simp] theorem tab14 : tab 14 = some ⟨.strct [(0, 1, false), (1, 1, false)], 2, .agg #[str [], .int .u64 0]⟩ := rfl
@[simp] theorem tab15 : tab 15 = some ⟨.flat, 1, .pointer none⟩ := rfl
@[simp] theorem tab16 : tab 16 = some ⟨.flat, 1, .pointer none⟩ := rfl
@[simp] theorem tab17 : tab 17 = some ⟨.flat, 1, .pointer none⟩ := rfl
@[simp] theorem tab18 : tab 18 = some ⟨.strct [(0, 1, false)], 1, .agg #[.pointer none]⟩ := rfl
@[simp] theorem tab19 : tab 19 = some ⟨.strct [(0, 1, false)], 1, .agg #[.pointer none]⟩ := rfl
@[simp] theorem tab20 : tab 20 = some ⟨.iface, 1, .nilIface⟩ := rfl
@[simp] theorem tab21 : tab 21 = some ⟨.int .i32, 1, .int .i32 0⟩ := rfl
@[simp] theorem tab23 : tab 23 = some ⟨.func, 1, .nilFunc⟩ := rfl
@[simp] theorem tab24 : tab 24 = some ⟨.func, 1, .nilFunc⟩ := rfl
@[simp] theorem tab25 : tab 25 = some ⟨.slc 5 1 1 (.int .u8 0), 1, .slice none 0 0⟩ := rfl
@[simp] theorem tab26 : tab 26 = some ⟨.func, 1, .nilFunc⟩ := rfl
@[simp] theorem tab28 : tab 28 = some ⟨.func, 1, .nilFunc⟩ := rfl
@[simp] theorem tab30 : tab 30 = some ⟨.func, 1, .nilFunc⟩ := rfl
@[simp] theorem tab32 : tab 32 = some ⟨.func, 1, .nilFunc⟩ := rfl
@[simp] theorem tab33 : tab 33 = some ⟨.func, 1, .nilFunc⟩ := rfl
@[simp] theorem tab34 : tab 34 = some ⟨.func, 1, .nilFunc⟩ := rfl
@[simp] theorem tab35 : tab 35 = some ⟨.func, 1, .nilFunc⟩ := rfl
@[simp] theorem tab36 : tab 36 = some ⟨.func, 1, .nilFunc⟩ := rfl
@[simp] theorem tab37 : tab 37 = some ⟨.func, 1, .nilFunc⟩ := rfl
@[simp] theorem tab38 : tab 38 = some ⟨.func, 1, .nilFunc⟩ := rfl
@[simp] theorem tab39 : tab 39 = some ⟨.int .u64, 1, .int .u64 0⟩ := rfl
@[simp] theorem tab40 : tab 40 = some ⟨.slc 4 1 1 (.bool false), 1, .slice none 0 0⟩ := rfl
@[simp] theorem tab41 : tab 41 = some ⟨.func, 1, .nilFunc⟩ := rfl
@[simp] theorem tab42 : tab 42 = some ⟨.func, 1, .nilFunc⟩ := rfl
@[simp] theorem tab43 : tab 43 = some ⟨.func, 1, .nilFunc⟩ := rfl
@[simp] theorem tab44 : tab 44 = some ⟨.func, 1, .nilFunc⟩ := rfl
@[simp] theorem tab45 : tab 45 = some ⟨.func, 1, .nilFunc⟩ := rfl
@[simp] theorem tab46 : tab 46 = some ⟨.func, 1, .nilFunc⟩ := rfl
@[simp] theorem tab47 : tab 47 = some ⟨.func, 1, .nilFunc⟩ := rfl
@[simp] theorem tab48 : tab 48 = some ⟨.func, 1, .nilFunc⟩ := rfl
@[simp] theorem tab49 : tab 49 = some ⟨.flat, 1, .pointer none⟩ := rfl
@[simp] theorem tab50 : tab 50 = some ⟨.func, 1, .nilFunc⟩ := rfl
@[simp] theorem tab51 : tab 51 = some ⟨.func, 1, .nilFunc⟩ := rfl
@[simp] theorem tab52 : tab 52 = some ⟨.func, 1, .nilFunc⟩ := rfl
@[simp] theorem tab53 : tab 53 = some ⟨.func, 1, .nilFunc⟩ := rfl
@[simp] theorem tab54 : tab 54 = some ⟨.func, 1, .nilFunc⟩ := rfl
@[simp] theorem tab55 : tab 55 = some ⟨.func, 1, .nilFunc⟩ := rfl
@[simp] theorem tab56 : tab 56 = some ⟨.func, 1, .nilFunc⟩ := rfl
@[simp] theorem tab57 : tab 57 = some ⟨.func, 1, .nilFunc⟩ := rfl
@[simp] theorem tab59 : tab 59 = some ⟨.func, 1, .nilFunc⟩ := rfl
@[simp] theorem tab60 : tab 60 = some ⟨.func, 1, .nilFunc⟩ := rfl
@[simp] theorem tab61 : tab 61 = some ⟨.func, 1, .nilFunc⟩ := rfl
@[simp] theorem tab62 : tab 62 = some ⟨.func, 1, .nilFunc⟩ := rfl
@[simp] theorem tab63 : tab 63 = some ⟨.func, 1, .nilFunc⟩ := rfl
@[simp] theorem tab64 : tab 64 = some ⟨.func, 1, .nilFunc⟩ := rfl
@[simp] theorem tab65 : tab 65 = some ⟨.func, 1, .nilFunc⟩ := rfl
@[simp] theorem tab66 : tab 66 = some ⟨.func, 1, .nilFunc⟩ := rfl
@[simp] theorem tab67 : tab 67 = some ⟨.strct [(0, 1, false), (1, 1, false), (2, 1, false)], 3, .agg #[.slice none 0 0, .int .i64 0, .int .u64 0]⟩ := rfl
@[simp] theorem tab68 : tab 68 = some ⟨.strct [(0, 1, false), (1, 1, false), (2, 1, false)], 3, .agg #[.slice none 0 0, .int .i64 0, .int .u64 0]⟩ := rfl
@[simp] theorem tab69 : tab 69 = some ⟨.slc 9 1 16 (str []), 1, .slice none 0 0⟩ := rfl
@[simp] theorem tab70 : tab 70 = some ⟨.slc 2 1 8 (.int .i64 0), 1, .slice none 0 0⟩ := rfl
@[simp] theorem tab71 : tab 71 = some ⟨.func, 1, .nilFunc⟩ := rfl
@[simp] theorem tab72 : tab 72 = some ⟨.func, 1, .nilFunc⟩ := rfl
@[simp] theorem tab73 : tab 73 = some ⟨.func, 1, .nilFunc⟩ := rfl
@[simp] theorem tab74 : tab 74 = some ⟨.int .u64, 1, .int .u64 0⟩ := rfl
@[simp] theorem tab75 : tab 75 = some ⟨.func, 1, .nilFunc⟩ := rfl
@[simp] theorem tab76 : tab 76 = some ⟨.arr 3 1 false, 3, .agg #[str [], str [], str []]⟩ := rfl
@[simp] theorem tab77 : tab 77 = some ⟨.func, 1, .nilFunc⟩ := rfl
@[simp] theorem tab78 : tab 78 = some ⟨.func, 1, .nilFunc⟩ := rfl
@[simp] theorem tab80 : tab 80 = some ⟨.func, 1, .nilFunc⟩ := rfl
@[simp] theorem tab81 : tab 81 = some ⟨.func, 1, .nilFunc⟩ := rfl
@[simp] theorem tab82 : tab 82 = some ⟨.int .i64, 1, .int .i64 0⟩ := rfl
@[simp] theorem tab84 : tab 84 = some ⟨.func, 1, .nilFunc⟩ := rfl
@[simp] theorem tab85 : tab 85 = some ⟨.func, 1, .nilFunc⟩ := rfl
@[simp] theorem tab86 : tab 86 = some ⟨.func, 1, .nilFunc⟩ := rfl
@[simp] theorem tab87 : tab 87 = some ⟨.func, 1, .nilFunc⟩ := rfl
@[simp] theorem tab89 : tab 89 = some ⟨.func, 1, .nilFunc⟩ := rfl
@[simp] theorem tab90 : tab 90 = some ⟨.func, 1, .nilFunc⟩ := rfl
@[simp] theorem tab91 : tab 91 = some ⟨.int .u32, 1, .int .u32 0⟩ := rfl
@[simp] theorem tab92 : tab 92 = some ⟨.func, 1, .nilFunc⟩ := rfl
@[simp] theorem tab93 : tab 93 = some ⟨.int .u64, 1, .int .u64 0⟩ := rfl
@[simp] theorem tab94 : tab 94 = some ⟨.func, 1, .nilFunc⟩ := rfl
@[simp] theorem tab95 : tab 95 = some ⟨.func, 1, .nilFunc⟩ := rfl
@[simp] theorem tab96 : tab 96 = some ⟨.func, 1, .nilFunc⟩ := rfl
@[simp] theorem tab97 : tab 97 = some ⟨.flat, 1, .pointer none⟩ := rfl
@[simp] theorem tab98 : tab 98 = some ⟨.func, 1, .nilFunc⟩ := rfl
@[simp] theorem tab99 : tab 99 = some ⟨.flat, 1, .pointer none⟩ := rfl
@[simp] theorem tab101 : tab 101 = some ⟨.func, 1, .nilFunc⟩ := rfl
@[simp] theorem tab102 : tab 102 = some ⟨.func, 1, .nilFunc⟩ := rfl
@[simp] theorem tab103 : tab 103 = some ⟨.strct [(0, 1, false), (1, 1, false), (2, 1, false), (3, 1, false)], 4, .agg #[.pointer none, .pointer none, .pointer none, str []]⟩ := rfl
@[simp] theorem tab104 : tab 104 = some ⟨.strct [(0, 1, false), (1, 1, false), (2, 1, false), (3, 1, false)], 4, .agg #[.pointer none, .pointer none, .pointer none, str []]⟩ := rfl
@[simp] theorem tab105 : tab 105 = some ⟨.arr 0 1 false, 0, .agg #[]⟩ := rfl
@[simp] theorem tab106 : tab 106 = some ⟨.strct [(0, 0, true)], 0, .agg #[]⟩ := rfl
@[simp] theorem tab107 : tab 107 = some ⟨.strct [(0, 0, true)], 0, .agg #[]⟩ := rfl
@[simp] theorem tab108 : tab 108 = some ⟨.func, 1, .nilFunc⟩ := rfl
@[simp] theorem tab109 : tab 109 = some ⟨.int .u8, 1, .int .u8 0⟩ := rfl
@[simp] theorem tab110 : tab 110 = some ⟨.int .u8, 1, .int .u8 0⟩ := rfl
@[simp] theorem tab111 : tab 111 = some ⟨.func, 1, .nilFunc⟩ := rfl
@[simp] theorem tab112 : tab 112 = some ⟨.flat, 1, .pointer none⟩ := rfl
@[simp] theorem tab113 : tab 113 = some ⟨.int .i32, 1, .int .i32 0⟩ := rfl
@[simp] theorem tab114 : tab 114 = some ⟨.int .i32, 1, .int .i32 0⟩ := rfl
@[simp] theorem tab115 : tab 115 = some ⟨.strct [(0, 1, false), (1, 1, false), (2, 1, false), (3, 1, false), (4, 1, false), (5, 1, false), (6, 1, false), (7, 1, false), (8, 1, false), (9, 1, false), (10, 1, false)], 11, .agg #[.int .u64 0, .int .u64 0, .int .u32 0, .int .u8 0, .int .u8 0, .int .u8 0, .int .u8 0, .nilFunc, .pointer none, .int .i32 0, .int .i32 0]⟩ := rfl
@[simp] theorem tab116 : tab 116 = some ⟨.strct [(0, 1, false), (1, 1, false), (2, 1, false), (3, 1, false), (4, 1, false), (5, 1, false), (6, 1, false), (7, 1, false), (8, 1, false), (9, 1, false), (10, 1, false)], 11, .agg #[.int .u64 0, .int .u64 0, .int .u32 0, .int .u8 0, .int .u8 0, .int .u8 0, .int .u8 0, .nilFunc, .pointer none, .int .i32 0, .int .i32 0]⟩ := rfl
theorem info_of {t : TypeId} {z : Value} {s b : Nat} (h : (Try.prog.info? t).map (fun i => (i.zero, i.size, i.bytes)) = some (some z, s, b)) : ∃ I, Try.prog.info? t = some I ∧ I.size = s ∧ I.bytes = b ∧ I.zero = some z := by
  obtain ⟨I, h1, h2⟩ := Option.map_eq_some_iff.1 h
  injection h2 with h2 h3
  injection h3 with h3 h4
  exact ⟨I, h1, h3, h4, h2⟩
theorem info_two {t : TypeId} {z : Value} {s b : Nat} (h : (Try.prog.info? t).map (fun i => (i.zero, i.size, i.bytes)) = some (some z, s, b)) : ∃ I, Try.prog.info? t = some I ∧ I.zero = some z ∧ I.size = s := by
  obtain ⟨I, h1, h2, _, h4⟩ := info_of h
  exact ⟨I, h1, h4, h2⟩
theorem inf1 : (Try.prog.info? 1).map (fun i => (i.zero, i.size, i.bytes)) = some (some (.nilFunc), 1, 8) := by kernel_rfl
theorem inf2 : (Try.prog.info? 2).map (fun i => (i.zero, i.size, i.bytes)) = some (some (.int .i64 0), 1, 8) := by kernel_rfl
theorem inf3 : (Try.prog.info? 3).map (fun i => (i.zero, i.size, i.bytes)) = some (some (.int .i64 0), 1, 8) := by kernel_rfl
theorem inf4 : (Try.prog.info? 4).map (fun i => (i.zero, i.size, i.bytes)) = some (some (.bool false), 1, 1) := by kernel_rfl
theorem inf5 : (Try.prog.info? 5).map (fun i => (i.zero, i.size, i.bytes)) = some (some (.int .u8 0), 1, 1) := by kernel_rfl
theorem inf6 : (Try.prog.info? 6).map (fun i => (i.zero, i.size, i.bytes)) = some (some (.int .u8 0), 1, 1) := by kernel_rfl
theorem inf7 : (Try.prog.info? 7).map (fun i => (i.zero, i.size, i.bytes)) = some (some (.agg #[.int .i64 0, .int .i64 0, .bool false, .int .u8 0]), 4, 24) := by kernel_rfl
theorem inf8 : (Try.prog.info? 8).map (fun i => (i.zero, i.size, i.bytes)) = some (some (.agg #[.int .i64 0, .int .i64 0, .bool false, .int .u8 0]), 4, 24) := by kernel_rfl
theorem inf9 : (Try.prog.info? 9).map (fun i => (i.zero, i.size, i.bytes)) = some (some (str []), 1, 16) := by kernel_rfl
theorem inf10 : (Try.prog.info? 10).map (fun i => (i.zero, i.size, i.bytes)) = some (some (str []), 1, 16) := by kernel_rfl
theorem inf11 : (Try.prog.info? 11).map (fun i => (i.zero, i.size, i.bytes)) = some (some (str []), 1, 16) := by kernel_rfl
theorem inf12 : (Try.prog.info? 12).map (fun i => (i.zero, i.size, i.bytes)) = some (some (.int .u64 0), 1, 8) := by kernel_rfl
theorem inf13 : (Try.prog.info? 13).map (fun i => (i.zero, i.size, i.bytes)) = some (some (.agg #[str [], .int .u64 0]), 2, 24) := by kernel_rfl
theorem inf14 : (Try.prog.info? 14).map (fun i => (i.zero, i.size, i.bytes)) = some (some (.agg #[str [], .int .u64 0]), 2, 24) := by kernel_rfl
theorem inf15 : (Try.prog.info? 15).map (fun i => (i.zero, i.size, i.bytes)) = some (some (.pointer none), 1, 8) := by kernel_rfl
theorem inf16 : (Try.prog.info? 16).map (fun i => (i.zero, i.size, i.bytes)) = some (some (.pointer none), 1, 8) := by kernel_rfl
theorem inf17 : (Try.prog.info? 17).map (fun i => (i.zero, i.size, i.bytes)) = some (some (.pointer none), 1, 8) := by kernel_rfl
theorem inf18 : (Try.prog.info? 18).map (fun i => (i.zero, i.size, i.bytes)) = some (some (.agg #[.pointer none]), 1, 8) := by kernel_rfl
theorem inf19 : (Try.prog.info? 19).map (fun i => (i.zero, i.size, i.bytes)) = some (some (.agg #[.pointer none]), 1, 8) := by kernel_rfl
theorem inf20 : (Try.prog.info? 20).map (fun i => (i.zero, i.size, i.bytes)) = some (some (.nilIface), 1, 16) := by kernel_rfl
theorem inf21 : (Try.prog.info? 21).map (fun i => (i.zero, i.size, i.bytes)) = some (some (.int .i32 0), 1, 4) := by kernel_rfl
theorem inf23 : (Try.prog.info? 23).map (fun i => (i.zero, i.size, i.bytes)) = some (some (.nilFunc), 1, 8) := by kernel_rfl
theorem inf24 : (Try.prog.info? 24).map (fun i => (i.zero, i.size, i.bytes)) = some (some (.nilFunc), 1, 8) := by kernel_rfl
theorem inf25 : (Try.prog.info? 25).map (fun i => (i.zero, i.size, i.bytes)) = some (some (.slice none 0 0), 1, 24) := by kernel_rfl
theorem inf26 : (Try.prog.info? 26).map (fun i => (i.zero, i.size, i.bytes)) = some (some (.nilFunc), 1, 8) := by kernel_rfl
theorem inf28 : (Try.prog.info? 28).map (fun i => (i.zero, i.size, i.bytes)) = some (some (.nilFunc), 1, 8) := by kernel_rfl
theorem inf30 : (Try.prog.info? 30).map (fun i => (i.zero, i.size, i.bytes)) = some (some (.nilFunc), 1, 8) := by kernel_rfl
theorem inf32 : (Try.prog.info? 32).map (fun i => (i.zero, i.size, i.bytes)) = some (some (.nilFunc), 1, 8) := by kernel_rfl
theorem inf33 : (Try.prog.info? 33).map (fun i => (i.zero, i.size, i.bytes)) = some (some (.nilFunc), 1, 8) := by kernel_rfl
theorem inf34 : (Try.prog.info? 34).map (fun i => (i.zero, i.size, i.bytes)) = some (some (.nilFunc), 1, 8) := by kernel_rfl
theorem inf35 : (Try.prog.info? 35).map (fun i => (i.zero, i.size, i.bytes)) = some (some (.nilFunc), 1, 8) := by kernel_rfl
theorem inf36 : (Try.prog.info? 36).map (fun i => (i.zero, i.size, i.bytes)) = some (some (.nilFunc), 1, 8) := by kernel_rfl
theorem inf37 : (Try.prog.info? 37).map (fun i => (i.zero, i.size, i.bytes)) = some (some (.nilFunc), 1, 8) := by kernel_rfl
theorem inf38 : (Try.prog.info? 38).map (fun i => (i.zero, i.size, i.bytes)) = some (some (.nilFunc), 1, 8) := by kernel_rfl
theorem inf39 : (Try.prog.info? 39).map (fun i => (i.zero, i.size, i.bytes)) = some (some (.int .u64 0), 1, 8) := by kernel_rfl
theorem inf40 : (Try.prog.info? 40).map (fun i => (i.zero, i.size, i.bytes)) = some (some (.slice none 0 0), 1, 24) := by kernel_rfl
theorem inf41 : (Try.prog.info? 41).map (fun i => (i.zero, i.size, i.bytes)) = some (some (.nilFunc), 1, 8) := by kernel_rfl
theorem inf42 : (Try.prog.info? 42).map (fun i => (i.zero, i.size, i.bytes)) = some (some (.nilFunc), 1, 8) := by kernel_rfl
theorem inf43 : (Try.prog.info? 43).map (fun i => (i.zero, i.size, i.bytes)) = some (some (.nilFunc), 1, 8) := by kernel_rfl
theorem inf44 : (Try.prog.info? 44).map (fun i => (i.zero, i.size, i.bytes)) = some (some (.nilFunc), 1, 8) := by kernel_rfl
theorem inf45 : (Try.prog.info? 45).map (fun i => (i.zero, i.size, i.bytes)) = some (some (.nilFunc), 1, 8) := by kernel_rfl
theorem inf46 : (Try.prog.info? 46).map (fun i => (i.zero, i.size, i.bytes)) = some (some (.nilFunc), 1, 8) := by kernel_rfl
theorem inf47 : (Try.prog.info? 47).map (fun i => (i.zero, i.size, i.bytes)) = some (some (.nilFunc), 1, 8) := by kernel_rfl
theorem inf48 : (Try.prog.info? 48).map (fun i => (i.zero, i.size, i.bytes)) = some (some (.nilFunc), 1, 8) := by kernel_rfl
theorem inf49 : (Try.prog.info? 49).map (fun i => (i.zero, i.size, i.bytes)) = some (some (.pointer none), 1, 8) := by kernel_rfl
theorem inf50 : (Try.prog.info? 50).map (fun i => (i.zero, i.size, i.bytes)) = some (some (.nilFunc), 1, 8) := by kernel_rfl
theorem inf51 : (Try.prog.info? 51).map (fun i => (i.zero, i.size, i.bytes)) = some (some (.nilFunc), 1, 8) := by kernel_rfl
theorem inf52 : (Try.prog.info? 52).map (fun i => (i.zero, i.size, i.bytes)) = some (some (.nilFunc), 1, 8) := by kernel_rfl
theorem inf53 : (Try.prog.info? 53).map (fun i => (i.zero, i.size, i.bytes)) = some (some (.nilFunc), 1, 8) := by kernel_rfl
theorem inf54 : (Try.prog.info? 54).map (fun i => (i.zero, i.size, i.bytes)) = some (some (.nilFunc), 1, 8) := by kernel_rfl
theorem inf55 : (Try.prog.info? 55).map (fun i => (i.zero, i.size, i.bytes)) = some (some (.nilFunc), 1, 8) := by kernel_rfl
theorem inf56 : (Try.prog.info? 56).map (fun i => (i.zero, i.size, i.bytes)) = some (some (.nilFunc), 1, 8) := by kernel_rfl
theorem inf57 : (Try.prog.info? 57).map (fun i => (i.zero, i.size, i.bytes)) = some (some (.nilFunc), 1, 8) := by kernel_rfl
theorem inf59 : (Try.prog.info? 59).map (fun i => (i.zero, i.size, i.bytes)) = some (some (.nilFunc), 1, 8) := by kernel_rfl
theorem inf60 : (Try.prog.info? 60).map (fun i => (i.zero, i.size, i.bytes)) = some (some (.nilFunc), 1, 8) := by kernel_rfl
theorem inf61 : (Try.prog.info? 61).map (fun i => (i.zero, i.size, i.bytes)) = some (some (.nilFunc), 1, 8) := by kernel_rfl
theorem inf62 : (Try.prog.info? 62).map (fun i => (i.zero, i.size, i.bytes)) = some (some (.nilFunc), 1, 8) := by kernel_rfl
theorem inf63 : (Try.prog.info? 63).map (fun i => (i.zero, i.size, i.bytes)) = some (some (.nilFunc), 1, 8) := by kernel_rfl
theorem inf64 : (Try.prog.info? 64).map (fun i => (i.zero, i.size, i.bytes)) = some (some (.nilFunc), 1, 8) := by kernel_rfl
theorem inf65 : (Try.prog.info? 65).map (fun i => (i.zero, i.size, i.bytes)) = some (some (.nilFunc), 1, 8) := by kernel_rfl
theorem inf66 : (Try.prog.info? 66).map (fun i => (i.zero, i.size, i.bytes)) = some (some (.nilFunc), 1, 8) := by kernel_rfl
theorem inf67 : (Try.prog.info? 67).map (fun i => (i.zero, i.size, i.bytes)) = some (some (.agg #[.slice none 0 0, .int .i64 0, .int .u64 0]), 3, 40) := by kernel_rfl
theorem inf68 : (Try.prog.info? 68).map (fun i => (i.zero, i.size, i.bytes)) = some (some (.agg #[.slice none 0 0, .int .i64 0, .int .u64 0]), 3, 40) := by kernel_rfl
theorem inf69 : (Try.prog.info? 69).map (fun i => (i.zero, i.size, i.bytes)) = some (some (.slice none 0 0), 1, 24) := by kernel_rfl
theorem inf70 : (Try.prog.info? 70).map (fun i => (i.zero, i.size, i.bytes)) = some (some (.slice none 0 0), 1, 24) := by kernel_rfl
theorem inf71 : (Try.prog.info? 71).map (fun i => (i.zero, i.size, i.bytes)) = some (some (.nilFunc), 1, 8) := by kernel_rfl
theorem inf72 : (Try.prog.info? 72).map (fun i => (i.zero, i.size, i.bytes)) = some (some (.nilFunc), 1, 8) := by kernel_rfl
theorem inf73 : (Try.prog.info? 73).map (fun i => (i.zero, i.size, i.bytes)) = some (some (.nilFunc), 1, 8) := by kernel_rfl
theorem inf74 : (Try.prog.info? 74).map (fun i => (i.zero, i.size, i.bytes)) = some (some (.int .u64 0), 1, 8) := by kernel_rfl
theorem inf75 : (Try.prog.info? 75).map (fun i => (i.zero, i.size, i.bytes)) = some (some (.nilFunc), 1, 8) := by kernel_rfl
theorem inf76 : (Try.prog.info? 76).map (fun i => (i.zero, i.size, i.bytes)) = some (some (.agg #[str [], str [], str []]), 3, 48) := by kernel_rfl
theorem inf77 : (Try.prog.info? 77).map (fun i => (i.zero, i.size, i.bytes)) = some (some (.nilFunc), 1, 8) := by kernel_rfl
theorem inf78 : (Try.prog.info? 78).map (fun i => (i.zero, i.size, i.bytes)) = some (some (.nilFunc), 1, 8) := by kernel_rfl
theorem inf80 : (Try.prog.info? 80).map (fun i => (i.zero, i.size, i.bytes)) = some (some (.nilFunc), 1, 8) := by kernel_rfl
theorem inf81 : (Try.prog.info? 81).map (fun i => (i.zero, i.size, i.bytes)) = some (some (.nilFunc), 1, 8) := by kernel_rfl
theorem inf82 : (Try.prog.info? 82).map (fun i => (i.zero, i.size, i.bytes)) = some (some (.int .i64 0), 1, 8) := by kernel_rfl
theorem inf84 : (Try.prog.info? 84).map (fun i => (i.zero, i.size, i.bytes)) = some (some (.nilFunc), 1, 8) := by kernel_rfl
theorem inf85 : (Try.prog.info? 85).map (fun i => (i.zero, i.size, i.bytes)) = some (some (.nilFunc), 1, 8) := by kernel_rfl
theorem inf86 : (Try.prog.info? 86).map (fun i => (i.zero, i.size, i.bytes)) = some (some (.nilFunc), 1, 8) := by kernel_rfl
theorem inf87 : (Try.prog.info? 87).map (fun i => (i.zero, i.size, i.bytes)) = some (some (.nilFunc), 1, 8) := by kernel_rfl
theorem inf89 : (Try.prog.info? 89).map (fun i => (i.zero, i.size, i.bytes)) = some (some (.nilFunc), 1, 8) := by kernel_rfl
theorem inf90 : (Try.prog.info? 90).map (fun i => (i.zero, i.size, i.bytes)) = some (some (.nilFunc), 1, 8) := by kernel_rfl
theorem inf91 : (Try.prog.info? 91).map (fun i => (i.zero, i.size, i.bytes)) = some (some (.int .u32 0), 1, 4) := by kernel_rfl
theorem inf92 : (Try.prog.info? 92).map (fun i => (i.zero, i.size, i.bytes)) = some (some (.nilFunc), 1, 8) := by kernel_rfl
theorem inf93 : (Try.prog.info? 93).map (fun i => (i.zero, i.size, i.bytes)) = some (some (.int .u64 0), 1, 8) := by kernel_rfl
theorem inf94 : (Try.prog.info? 94).map (fun i => (i.zero, i.size, i.bytes)) = some (some (.nilFunc), 1, 8) := by kernel_rfl
theorem inf95 : (Try.prog.info? 95).map (fun i => (i.zero, i.size, i.bytes)) = some (some (.nilFunc), 1, 8) := by kernel_rfl
theorem inf96 : (Try.prog.info? 96).map (fun i => (i.zero, i.size, i.bytes)) = some (some (.nilFunc), 1, 8) := by kernel_rfl
theorem inf97 : (Try.prog.info? 97).map (fun i => (i.zero, i.size, i.bytes)) = some (some (.pointer none), 1, 8) := by kernel_rfl
theorem inf98 : (Try.prog.info? 98).map (fun i => (i.zero, i.size, i.bytes)) = some (some (.nilFunc), 1, 8) := by kernel_rfl
theorem inf99 : (Try.prog.info? 99).map (fun i => (i.zero, i.size, i.bytes)) = some (some (.pointer none), 1, 8) := by kernel_rfl
theorem inf101 : (Try.prog.info? 101).map (fun i => (i.zero, i.size, i.bytes)) = some (some (.nilFunc), 1, 8) := by kernel_rfl
theorem inf102 : (Try.prog.info? 102).map (fun i => (i.zero, i.size, i.bytes)) = some (some (.nilFunc), 1, 8) := by kernel_rfl
theorem inf103 : (Try.prog.info? 103).map (fun i => (i.zero, i.size, i.bytes)) = some (some (.agg #[.pointer none, .pointer none, .pointer none, str []]), 4, 40) := by kernel_rfl
theorem inf104 : (Try.prog.info? 104).map (fun i => (i.zero, i.size, i.bytes)) = some (some (.agg #[.pointer none, .pointer none, .pointer none, str []]), 4, 40) := by kernel_rfl
theorem inf105 : (Try.prog.info? 105).map (fun i => (i.zero, i.size, i.bytes)) = some (some (.agg #[]), 0, 0) := by kernel_rfl
theorem inf106 : (Try.prog.info? 106).map (fun i => (i.zero, i.size, i.bytes)) = some (some (.agg #[]), 0, 0) := by kernel_rfl
theorem inf107 : (Try.prog.info? 107).map (fun i => (i.zero, i.size, i.bytes)) = some (some (.agg #[]), 0, 0) := by kernel_rfl
theorem inf108 : (Try.prog.info? 108).map (fun i => (i.zero, i.size, i.bytes)) = some (some (.nilFunc), 1, 8) := by kernel_rfl
theorem inf109 : (Try.prog.info? 109).map (fun i => (i.zero, i.size, i.bytes)) = some (some (.int .u8 0), 1, 1) := by kernel_rfl
theorem inf110 : (Try.prog.info? 110).map (fun i => (i.zero, i.size, i.bytes)) = some (some (.int .u8 0), 1, 1) := by kernel_rfl
theorem inf111 : (Try.prog.info? 111).map (fun i => (i.zero, i.size, i.bytes)) = some (some (.nilFunc), 1, 8) := by kernel_rfl
theorem inf112 : (Try.prog.info? 112).map (fun i => (i.zero, i.size, i.bytes)) = some (some (.pointer none), 1, 8) := by kernel_rfl
theorem inf113 : (Try.prog.info? 113).map (fun i => (i.zero, i.size, i.bytes)) = some (some (.int .i32 0), 1, 4) := by kernel_rfl
theorem inf114 : (Try.prog.info? 114).map (fun i => (i.zero, i.size, i.bytes)) = some (some (.int .i32 0), 1, 4) := by kernel_rfl
theorem inf115 : (Try.prog.info? 115).map (fun i => (i.zero, i.size, i.bytes)) = some (some (.agg #[.int .u64 0, .int .u64 0, .int .u32 0, .int .u8 0, .int .u8 0, .int .u8 0, .int .u8 0, .nilFunc, .pointer none, .int .i32 0, .int .i32 0]), 11, 48) := by kernel_rfl
theorem inf116 : (Try.prog.info? 116).map (fun i => (i.zero, i.size, i.bytes)) = some (some (.agg #[.int .u64 0, .int .u64 0, .int .u32 0, .int .u8 0, .int .u8 0, .int .u8 0, .int .u8 0, .nilFunc, .pointer none, .int .i32 0, .int .i32 0]), 11, 48) := by kernel_rfl
theorem ok1 : TI.ok Try.prog 1 ⟨.func, 1, .nilFunc⟩ := ⟨⟨_, _, _, Try.underlying1⟩, info_two inf1⟩
theorem ok2 : TI.ok Try.prog 2 ⟨.int .i64, 1, .int .i64 0⟩ := ⟨Try.underlying2, info_two inf2⟩
theorem ok3 : TI.ok Try.prog 3 ⟨.int .i64, 1, .int .i64 0⟩ := ⟨Try.underlying3, info_two inf3⟩
theorem ok4 : TI.ok Try.prog 4 ⟨.bool, 1, .bool false⟩ := ⟨Try.underlying4, info_two inf4⟩
theorem ok5 : TI.ok Try.prog 5 ⟨.int .u8, 1, .int .u8 0⟩ := ⟨Try.underlying5, info_two inf5⟩
theorem ok6 : TI.ok Try.prog 6 ⟨.int .u8, 1, .int .u8 0⟩ := ⟨Try.underlying6, info_two inf6⟩
theorem ok7 : TI.ok Try.prog 7 ⟨.strct [(0, 1, false), (1, 1, false), (2, 1, false), (3, 1, false)], 4, .agg #[.int .i64 0, .int .i64 0, .bool false, .int .u8 0]⟩ := ⟨⟨_, Try.underlying7, by kernel_rfl, by
    intro f hf
    simp only [List.mem_cons, List.not_mem_nil, or_false] at hf
    (first | (rcases hf with rfl | rfl | rfl | rfl) | (obtain rfl := hf)) <;> exact ⟨by kernel_rfl, by kernel_rfl⟩⟩, info_two inf7⟩
theorem ok8 : TI.ok Try.prog 8 ⟨.strct [(0, 1, false), (1, 1, false), (2, 1, false), (3, 1, false)], 4, .agg #[.int .i64 0, .int .i64 0, .bool false, .int .u8 0]⟩ := ⟨⟨_, Try.underlying8, by kernel_rfl, by
    intro f hf
    simp only [List.mem_cons, List.not_mem_nil, or_false] at hf
    (first | (rcases hf with rfl | rfl | rfl | rfl) | (obtain rfl := hf)) <;> exact ⟨by kernel_rfl, by kernel_rfl⟩⟩, info_two inf8⟩
theorem ok9 : TI.ok Try.prog 9 ⟨.str, 1, str []⟩ := ⟨Try.underlying9, info_two inf9⟩
theorem ok10 : TI.ok Try.prog 10 ⟨.str, 1, str []⟩ := ⟨Try.underlying10, info_two inf10⟩
theorem ok11 : TI.ok Try.prog 11 ⟨.str, 1, str []⟩ := ⟨Try.underlying11, info_two inf11⟩
theorem ok12 : TI.ok Try.prog 12 ⟨.int .u64, 1, .int .u64 0⟩ := ⟨Try.underlying12, info_two inf12⟩
theorem ok13 : TI.ok Try.prog 13 ⟨.strct [(0, 1, false), (1, 1, false)], 2, .agg #[str [], .int .u64 0]⟩ := ⟨⟨_, Try.underlying13, by kernel_rfl, by
    intro f hf
    simp only [List.mem_cons, List.not_mem_nil, or_false] at hf
    (first | (rcases hf with rfl | rfl) | (obtain rfl := hf)) <;> exact ⟨by kernel_rfl, by kernel_rfl⟩⟩, info_two inf13⟩
theorem ok14 : TI.ok Try.prog 14 ⟨.strct [(0, 1, false), (1, 1, false)], 2, .agg #[str [], .int .u64 0]⟩ := ⟨⟨_, Try.underlying14, by kernel_rfl, by
    intro f hf
    simp only [List.mem_cons, List.not_mem_nil, or_false] at hf
    (first | (rcases hf with rfl | rfl) | (obtain rfl := hf)) <;> exact ⟨by kernel_rfl, by kernel_rfl⟩⟩, info_two inf14⟩
theorem ok15 : TI.ok Try.prog 15 ⟨.flat, 1, .pointer none⟩ := ⟨⟨_, Try.underlying15, rfl⟩, info_two inf15⟩
theorem ok16 : TI.ok Try.prog 16 ⟨.flat, 1, .pointer none⟩ := ⟨⟨_, Try.underlying16, rfl⟩, info_two inf16⟩
theorem ok17 : TI.ok Try.prog 17 ⟨.flat, 1, .pointer none⟩ := ⟨⟨_, Try.underlying17, rfl⟩, info_two inf17⟩
theorem ok18 : TI.ok Try.prog 18 ⟨.strct [(0, 1, false)], 1, .agg #[.pointer none]⟩ := ⟨⟨_, Try.underlying18, by kernel_rfl, by
    intro f hf
    simp only [List.mem_cons, List.not_mem_nil, or_false] at hf
    (first | (rcases hf with rfl) | (obtain rfl := hf)) <;> exact ⟨by kernel_rfl, by kernel_rfl⟩⟩, info_two inf18⟩
theorem ok19 : TI.ok Try.prog 19 ⟨.strct [(0, 1, false)], 1, .agg #[.pointer none]⟩ := ⟨⟨_, Try.underlying19, by kernel_rfl, by
    intro f hf
    simp only [List.mem_cons, List.not_mem_nil, or_false] at hf
    (first | (rcases hf with rfl) | (obtain rfl := hf)) <;> exact ⟨by kernel_rfl, by kernel_rfl⟩⟩, info_two inf19⟩
theorem ok20 : TI.ok Try.prog 20 ⟨.iface, 1, .nilIface⟩ := ⟨⟨_, Try.underlying20⟩, info_two inf20⟩
theorem ok21 : TI.ok Try.prog 21 ⟨.int .i32, 1, .int .i32 0⟩ := ⟨Try.underlying21, info_two inf21⟩
theorem ok23 : TI.ok Try.prog 23 ⟨.func, 1, .nilFunc⟩ := ⟨⟨_, _, _, Try.underlying23⟩, info_two inf23⟩
theorem ok24 : TI.ok Try.prog 24 ⟨.func, 1, .nilFunc⟩ := ⟨⟨_, _, _, Try.underlying24⟩, info_two inf24⟩
theorem ok25 : TI.ok Try.prog 25 ⟨.slc 5 1 1 (.int .u8 0), 1, .slice none 0 0⟩ := ⟨⟨Try.underlying25, info_of inf5⟩, info_two inf25⟩
theorem ok26 : TI.ok Try.prog 26 ⟨.func, 1, .nilFunc⟩ := ⟨⟨_, _, _, Try.underlying26⟩, info_two inf26⟩
theorem ok28 : TI.ok Try.prog 28 ⟨.func, 1, .nilFunc⟩ := ⟨⟨_, _, _, Try.underlying28⟩, info_two inf28⟩
theorem ok30 : TI.ok Try.prog 30 ⟨.func, 1, .nilFunc⟩ := ⟨⟨_, _, _, Try.underlying30⟩, info_two inf30⟩
theorem ok32 : TI.ok Try.prog 32 ⟨.func, 1, .nilFunc⟩ := ⟨⟨_, _, _, Try.underlying32⟩, info_two inf32⟩
theorem ok33 : TI.ok Try.prog 33 ⟨.func, 1, .nilFunc⟩ := ⟨⟨_, _, _, Try.underlying33⟩, info_two inf33⟩
theorem ok34 : TI.ok Try.prog 34 ⟨.func, 1, .nilFunc⟩ := ⟨⟨_, _, _, Try.underlying34⟩, info_two inf34⟩
theorem ok35 : TI.ok Try.prog 35 ⟨.func, 1, .nilFunc⟩ := ⟨⟨_, _, _, Try.underlying35⟩, info_two inf35⟩
theorem ok36 : TI.ok Try.prog 36 ⟨.func, 1, .nilFunc⟩ := ⟨⟨_, _, _, Try.underlying36⟩, info_two inf36⟩
theorem ok37 : TI.ok Try.prog 37 ⟨.func, 1, .nilFunc⟩ := ⟨⟨_, _, _, Try.underlying37⟩, info_two inf37⟩
theorem ok38 : TI.ok Try.prog 38 ⟨.func, 1, .nilFunc⟩ := ⟨⟨_, _, _, Try.underlying38⟩, info_two inf38⟩
theorem ok39 : TI.ok Try.prog 39 ⟨.int .u64, 1, .int .u64 0⟩ := ⟨Try.underlying39, info_two inf39⟩
theorem ok40 : TI.ok Try.prog 40 ⟨.slc 4 1 1 (.bool false), 1, .slice none 0 0⟩ := ⟨⟨Try.underlying40, info_of inf4⟩, info_two inf40⟩
theorem ok41 : TI.ok Try.prog 41 ⟨.func, 1, .nilFunc⟩ := ⟨⟨_, _, _, Try.underlying41⟩, info_two inf41⟩
theorem ok42 : TI.ok Try.prog 42 ⟨.func, 1, .nilFunc⟩ := ⟨⟨_, _, _, Try.underlying42⟩, info_two inf42⟩
theorem ok43 : TI.ok Try.prog 43 ⟨.func, 1, .nilFunc⟩ := ⟨⟨_, _, _, Try.underlying43⟩, info_two inf43⟩
theorem ok44 : TI.ok Try.prog 44 ⟨.func, 1, .nilFunc⟩ := ⟨⟨_, _, _, Try.underlying44⟩, info_two inf44⟩
theorem ok45 : TI.ok Try.prog 45 ⟨.func, 1, .nilFunc⟩ := ⟨⟨_, _, _, Try.underlying45⟩, info_two inf45⟩
theorem ok46 : TI.ok Try.prog 46 ⟨.func, 1, .nilFunc⟩ := ⟨⟨_, _, _, Try.underlying46⟩, info_two inf46⟩
theorem ok47 : TI.ok Try.prog 47 ⟨.func, 1, .nilFunc⟩ := ⟨⟨_, _, _, Try.underlying47⟩, info_two inf47⟩
theorem ok48 : TI.ok Try.prog 48 ⟨.func, 1, .nilFunc⟩ := ⟨⟨_, _, _, Try.underlying48⟩, info_two inf48⟩
theorem ok49 : TI.ok Try.prog 49 ⟨.flat, 1, .pointer none⟩ := ⟨⟨_, Try.underlying49, rfl⟩, info_two inf49⟩
theorem ok50 : TI.ok Try.prog 50 ⟨.func, 1, .nilFunc⟩ := ⟨⟨_, _, _, Try.underlying50⟩, info_two inf50⟩
theorem ok51 : TI.ok Try.prog 51 ⟨.func, 1, .nilFunc⟩ := ⟨⟨_, _, _, Try.underlying51⟩, info_two inf51⟩
theorem ok52 : TI.ok Try.prog 52 ⟨.func, 1, .nilFunc⟩ := ⟨⟨_, _, _, Try.underlying52⟩, info_two inf52⟩
theorem ok53 : TI.ok Try.prog 53 ⟨.func, 1, .nilFunc⟩ := ⟨⟨_, _, _, Try.underlying53⟩, info_two inf53⟩
theorem ok54 : TI.ok Try.prog 54 ⟨.func, 1, .nilFunc⟩ := ⟨⟨_, _, _, Try.underlying54⟩, info_two inf54⟩
theorem ok55 : TI.ok Try.prog 55 ⟨.func, 1, .nilFunc⟩ := ⟨⟨_, _, _, Try.underlying55⟩, info_two inf55⟩
theorem ok56 : TI.ok Try.prog 56 ⟨.func, 1, .nilFunc⟩ := ⟨⟨_, _, _, Try.underlying56⟩, info_two inf56⟩
theorem ok57 : TI.ok Try.prog 57 ⟨.func, 1, .nilFunc⟩ := ⟨⟨_, _, _, Try.underlying57⟩, info_two inf57⟩
theorem ok59 : TI.ok Try.prog 59 ⟨.func, 1, .nilFunc⟩ := ⟨⟨_, _, _, Try.underlying59⟩, info_two inf59⟩
theorem ok60 : TI.ok Try.prog 60 ⟨.func, 1, .nilFunc⟩ := ⟨⟨_, _, _, Try.underlying60⟩, info_two inf60⟩
theorem ok61 : TI.ok Try.prog 61 ⟨.func, 1, .nilFunc⟩ := ⟨⟨_, _, _, Try.underlying61⟩, info_two inf61⟩
theorem ok62 : TI.ok Try.prog 62 ⟨.func, 1, .nilFunc⟩ := ⟨⟨_, _, _, Try.underlying62⟩, info_two inf62⟩
theorem ok63 : TI.ok Try.prog 63 ⟨.func, 1, .nilFunc⟩ := ⟨⟨_, _, _, Try.underlying63⟩, info_two inf63⟩
theorem ok64 : TI.ok Try.prog 64 ⟨.func, 1, .nilFunc⟩ := ⟨⟨_, _, _, Try.underlying64⟩, info_two inf64⟩
theorem ok65 : TI.ok Try.prog 65 ⟨.func, 1, .nilFunc⟩ := ⟨⟨_, _, _, Try.underlying65⟩, info_two inf65⟩
theorem ok66 : TI.ok Try.prog 66 ⟨.func, 1, .nilFunc⟩ := ⟨⟨_, _, _, Try.underlying66⟩, info_two inf66⟩
theorem ok67 : TI.ok Try.prog 67 ⟨.strct [(0, 1, false), (1, 1, false), (2, 1, false)], 3, .agg #[.slice none 0 0, .int .i64 0, .int .u64 0]⟩ := ⟨⟨_, Try.underlying67, by kernel_rfl, by
    intro f hf
    simp only [List.mem_cons, List.not_mem_nil, or_false] at hf
    (first | (rcases hf with rfl | rfl | rfl) | (obtain rfl := hf)) <;> exact ⟨by kernel_rfl, by kernel_rfl⟩⟩, info_two inf67⟩
theorem ok68 : TI.ok Try.prog 68 ⟨.strct [(0, 1, false), (1, 1, false), (2, 1, false)], 3, .agg #[.slice none 0 0, .int .i64 0, .int .u64 0]⟩ := ⟨⟨_, Try.underlying68, by kernel_rfl, by
    intro f hf
    simp only [List.mem_cons, List.not_mem_nil, or_false] at hf
    (first | (rcases hf with rfl | rfl | rfl) | (obtain rfl := hf)) <;> exact ⟨by kernel_rfl, by kernel_rfl⟩⟩, info_two inf68⟩
theorem ok69 : TI.ok Try.prog 69 ⟨.slc 9 1 16 (str []), 1, .slice none 0 0⟩ := ⟨⟨Try.underlying69, info_of inf9⟩, info_two inf69⟩
theorem ok70 : TI.ok Try.prog 70 ⟨.slc 2 1 8 (.int .i64 0), 1, .slice none 0 0⟩ := ⟨⟨Try.underlying70, info_of inf2⟩, info_two inf70⟩
theorem ok71 : TI.ok Try.prog 71 ⟨.func, 1, .nilFunc⟩ := ⟨⟨_, _, _, Try.underlying71⟩, info_two inf71⟩
theorem ok72 : TI.ok Try.prog 72 ⟨.func, 1, .nilFunc⟩ := ⟨⟨_, _, _, Try.underlying72⟩, info_two inf72⟩
theorem ok73 : TI.ok Try.prog 73 ⟨.func, 1, .nilFunc⟩ := ⟨⟨_, _, _, Try.underlying73⟩, info_two inf73⟩
theorem ok74 : TI.ok Try.prog 74 ⟨.int .u64, 1, .int .u64 0⟩ := ⟨Try.underlying74, info_two inf74⟩
theorem ok75 : TI.ok Try.prog 75 ⟨.func, 1, .nilFunc⟩ := ⟨⟨_, _, _, Try.underlying75⟩, info_two inf75⟩
theorem ok76 : TI.ok Try.prog 76 ⟨.arr 3 1 false, 3, .agg #[str [], str [], str []]⟩ := ⟨⟨_, Try.underlying76, (let ⟨I, a, b, _⟩ := info_of inf9; ⟨I, a, b⟩), by kernel_rfl, by kernel_rfl⟩, info_two inf76⟩
theorem ok77 : TI.ok Try.prog 77 ⟨.func, 1, .nilFunc⟩ := ⟨⟨_, _, _, Try.underlying77⟩, info_two inf77⟩
theorem ok78 : TI.ok Try.prog 78 ⟨.func, 1, .nilFunc⟩ := ⟨⟨_, _, _, Try.underlying78⟩, info_two inf78⟩
theorem ok80 : TI.ok Try.prog 80 ⟨.func, 1, .nilFunc⟩ := ⟨⟨_, _, _, Try.underlying80⟩, info_two inf80⟩
theorem ok81 : TI.ok Try.prog 81 ⟨.func, 1, .nilFunc⟩ := ⟨⟨_, _, _, Try.underlying81⟩, info_two inf81⟩
theorem ok82 : TI.ok Try.prog 82 ⟨.int .i64, 1, .int .i64 0⟩ := ⟨Try.underlying82, info_two inf82⟩
theorem ok84 : TI.ok Try.prog 84 ⟨.func, 1, .nilFunc⟩ := ⟨⟨_, _, _, Try.underlying84⟩, info_two inf84⟩
theorem ok85 : TI.ok Try.prog 85 ⟨.func, 1, .nilFunc⟩ := ⟨⟨_, _, _, Try.underlying85⟩, info_two inf85⟩
theorem ok86 : TI.ok Try.prog 86 ⟨.func, 1, .nilFunc⟩ := ⟨⟨_, _, _, Try.underlying86⟩, info_two inf86⟩
theorem ok87 : TI.ok Try.prog 87 ⟨.func, 1, .nilFunc⟩ := ⟨⟨_, _, _, Try.underlying87⟩, info_two inf87⟩
theorem ok89 : TI.ok Try.prog 89 ⟨.func, 1, .nilFunc⟩ := ⟨⟨_, _, _, Try.underlying89⟩, info_two inf89⟩
theorem ok90 : TI.ok Try.prog 90 ⟨.func, 1, .nilFunc⟩ := ⟨⟨_, _, _, Try.underlying90⟩, info_two inf90⟩
theorem ok91 : TI.ok Try.prog 91 ⟨.int .u32, 1, .int .u32 0⟩ := ⟨Try.underlying91, info_two inf91⟩
theorem ok92 : TI.ok Try.prog 92 ⟨.func, 1, .nilFunc⟩ := ⟨⟨_, _, _, Try.underlying92⟩, info_two inf92⟩
theorem ok93 : TI.ok Try.prog 93 ⟨.int .u64, 1, .int .u64 0⟩ := ⟨Try.underlying93, info_two inf93⟩
theorem ok94 : TI.ok Try.prog 94 ⟨.func, 1, .nilFunc⟩ := ⟨⟨_, _, _, Try.underlying94⟩, info_two inf94⟩
theorem ok95 : TI.ok Try.prog 95 ⟨.func, 1, .nilFunc⟩ := ⟨⟨_, _, _, Try.underlying95⟩, info_two inf95⟩
theorem ok96 : TI.ok Try.prog 96 ⟨.func, 1, .nilFunc⟩ := ⟨⟨_, _, _, Try.underlying96⟩, info_two inf96⟩
theorem ok97 : TI.ok Try.prog 97 ⟨.flat, 1, .pointer none⟩ := ⟨⟨_, Try.underlying97, rfl⟩, info_two inf97⟩
theorem ok98 : TI.ok Try.prog 98 ⟨.func, 1, .nilFunc⟩ := ⟨⟨_, _, _, Try.underlying98⟩, info_two inf98⟩
theorem ok99 : TI.ok Try.prog 99 ⟨.flat, 1, .pointer none⟩ := ⟨⟨_, Try.underlying99, rfl⟩, info_two inf99⟩
theorem ok101 : TI.ok Try.prog 101 ⟨.func, 1, .nilFunc⟩ := ⟨⟨_, _, _, Try.underlying101⟩, info_two inf101⟩
theorem ok102 : TI.ok Try.prog 102 ⟨.func, 1, .nilFunc⟩ := ⟨⟨_, _, _, Try.underlying102⟩, info_two inf102⟩
theorem ok103 : TI.ok Try.prog 103 ⟨.strct [(0, 1, false), (1, 1, false), (2, 1, false), (3, 1, false)], 4, .agg #[.pointer none, .pointer none, .pointer none, str []]⟩ := ⟨⟨_, Try.underlying103, by kernel_rfl, by
    intro f hf
    simp only [List.mem_cons, List.not_mem_nil, or_false] at hf
    (first | (rcases hf with rfl | rfl | rfl | rfl) | (obtain rfl := hf)) <;> exact ⟨by kernel_rfl, by kernel_rfl⟩⟩, info_two inf103⟩
theorem ok104 : TI.ok Try.prog 104 ⟨.strct [(0, 1, false), (1, 1, false), (2, 1, false), (3, 1, false)], 4, .agg #[.pointer none, .pointer none, .pointer none, str []]⟩ := ⟨⟨_, Try.underlying104, by kernel_rfl, by
    intro f hf
    simp only [List.mem_cons, List.not_mem_nil, or_false] at hf
    (first | (rcases hf with rfl | rfl | rfl | rfl) | (obtain rfl := hf)) <;> exact ⟨by kernel_rfl, by kernel_rfl⟩⟩, info_two inf104⟩
theorem ok105 : TI.ok Try.prog 105 ⟨.arr 0 1 false, 0, .agg #[]⟩ := ⟨⟨_, Try.underlying105, (let ⟨I, a, b, _⟩ := info_of inf16; ⟨I, a, b⟩), by kernel_rfl, by kernel_rfl⟩, info_two inf105⟩
theorem ok106 : TI.ok Try.prog 106 ⟨.strct [(0, 0, true)], 0, .agg #[]⟩ := ⟨⟨_, Try.underlying106, by kernel_rfl, by
    intro f hf
    simp only [List.mem_cons, List.not_mem_nil, or_false] at hf
    (first | (rcases hf with rfl) | (obtain rfl := hf)) <;> exact ⟨by kernel_rfl, by kernel_rfl⟩⟩, info_two inf106⟩
theorem ok107 : TI.ok Try.prog 107 ⟨.strct [(0, 0, true)], 0, .agg #[]⟩ := ⟨⟨_, Try.underlying107, by kernel_rfl, by
    intro f hf
    simp only [List.mem_cons, List.not_mem_nil, or_false] at hf
    (first | (rcases hf with rfl) | (obtain rfl := hf)) <;> exact ⟨by kernel_rfl, by kernel_rfl⟩⟩, info_two inf107⟩
theorem ok108 : TI.ok Try.prog 108 ⟨.func, 1, .nilFunc⟩ := ⟨⟨_, _, _, Try.underlying108⟩, info_two inf108⟩
theorem ok109 : TI.ok Try.prog 109 ⟨.int .u8, 1, .int .u8 0⟩ := ⟨Try.underlying109, info_two inf109⟩
theorem ok110 : TI.ok Try.prog 110 ⟨.int .u8, 1, .int .u8 0⟩ := ⟨Try.underlying110, info_two inf110⟩
theorem ok111 : TI.ok Try.prog 111 ⟨.func, 1, .nilFunc⟩ := ⟨⟨_, _, _, Try.underlying111⟩, info_two inf111⟩
theorem ok112 : TI.ok Try.prog 112 ⟨.flat, 1, .pointer none⟩ := ⟨⟨_, Try.underlying112, rfl⟩, info_two inf112⟩
theorem ok113 : TI.ok Try.prog 113 ⟨.int .i32, 1, .int .i32 0⟩ := ⟨Try.underlying113, info_two inf113⟩
theorem ok114 : TI.ok Try.prog 114 ⟨.int .i32, 1, .int .i32 0⟩ := ⟨Try.underlying114, info_two inf114⟩
theorem ok115 : TI.ok Try.prog 115 ⟨.strct [(0, 1, false), (1, 1, false), (2, 1, false), (3, 1, false), (4, 1, false), (5, 1, false), (6, 1, false), (7, 1, false), (8, 1, false), (9, 1, false), (10, 1, false)], 11, .agg #[.int .u64 0, .int .u64 0, .int .u32 0, .int .u8 0, .int .u8 0, .int .u8 0, .int .u8 0, .nilFunc, .pointer none, .int .i32 0, .int .i32 0]⟩ := ⟨⟨_, Try.underlying115, by kernel_rfl, by
    intro f hf
    simp only [List.mem_cons, List.not_mem_nil, or_false] at hf
    (first | (rcases hf with rfl | rfl | rfl | rfl | rfl | rfl | rfl | rfl | rfl | rfl | rfl) | (obtain rfl := hf)) <;> exact ⟨by kernel_rfl, by kernel_rfl⟩⟩, info_two inf115⟩
theorem ok116 : TI.ok Try.prog 116 ⟨.strct [(0, 1, false), (1, 1, false), (2, 1, false), (3, 1, false), (4, 1, false), (5, 1, false), (6, 1, false), (7, 1, false), (8, 1, false), (9, 1, false), (10, 1, false)], 11, .agg #[.int .u64 0, .int .u64 0, .int .u32 0, .int .u8 0, .int .u8 0, .int .u8 0, .int .u8 0, .nilFunc, .pointer none, .int .i32 0, .int .i32 0]⟩ := ⟨⟨_, Try.underlying116, by kernel_rfl, by
    intro f hf
    simp only [List.mem_cons, List.not_mem_nil, or_false] at hf
    (first | (rcases hf with rfl | rfl | rfl | rfl | rfl | rfl | rfl | rfl | rfl | rfl | rfl) | (obtain rfl := hf)) <;> exact ⟨by kernel_rfl, by kernel_rfl⟩⟩, info_two inf116⟩
set_option maxRecDepth 100000 in
theorem tabP0_ok : TabOk Try.prog tabP0 := by
  intro t i h
  unfold tabP0 at h
  split at h
  · injection h with h; subst h; exact ok1
  · injection h with h; subst h; exact ok2
  · injection h with h; subst h; exact ok3
  · injection h with h; subst h; exact ok4
  · injection h with h; subst h; exact ok5
  · injection h with h; subst h; exact ok6
  · injection h with h; subst h; exact ok7
  · injection h with h; subst h; exact ok8
  · injection h with h; subst h; exact ok9
  · injection h with h; subst h; exact ok10
  · injection h with h; subst h; exact ok11
  · injection h with h; subst h; exact ok12
  · injection h with h; subst h; exact ok13
  · injection h with h; subst h; exact ok14
  · injection h with h; subst h; exact ok15
  · injection h with h; subst h; exact ok16
  · injection h with h; subst h; exact ok17
  · injection h with h; subst h; exact ok18
  · injection h with h; subst h; exact ok19
  · injection h with h; subst h; exact ok20
  · injection h with h; subst h; exact ok21
  · injection h with h; subst h; exact ok23
  · injection h with h; subst h; exact ok24
  · injection h with h; subst h; exact ok25
  · injection h with h; subst h; exact ok26
  · injection h with h; subst h; exact ok28
  · injection h with h; subst h; exact ok30
  · injection h with h; subst h; exact ok32
  · injection h with h; subst h; exact ok33
  · injection h with h; subst h; exact ok34
  · injection h with h; subst h; exact ok35
  · injection h with h; subst h; exact ok36
  · injection h with h; subst h; exact ok37
  · injection h with h; subst h; exact ok38
  · injection h with h; subst h; exact ok39
  · injection h with h; subst h; exact ok40
  · injection h with h; subst h; exact ok41
  · injection h with h; subst h; exact ok42
  · injection h with h; subst h; exact ok43
  · injection h with h; subst h; exact ok44
  · injection h with h; subst h; exact ok45
  · injection h with h; subst h; exact ok46
  · injection h with h; subst h; exact ok47
  · injection h with h; subst h; exact ok48
  · injection h with h; subst h; exact ok49
  · injection h with h; subst h; exact ok50
  · injection h with h; subst h; exact ok51
  · injection h with h; subst h; exact ok52
  · injection h with h; subst h; exact ok53
  · injection h with h; subst h; exact ok54
  · injection h with h; subst h; exact ok55
  · injection h with h; subst h; exact ok56
  · injection h with h; subst h; exact ok57
  · injection h with h; subst h; exact ok59
  · injection h with h; subst h; exact ok60
  · injection h with h; subst h; exact ok61
  · injection h with h; subst h; exact ok62
  · injection h with h; subst h; exact ok63
  · injection h with h; subst h; exact ok64
  · injection h with h; subst h; exact ok65
  · cases h
set_option maxRecDepth 100000 in
theorem tabP1_ok : TabOk Try.prog tabP1 := by
  intro t i h
  unfold tabP1 at h
  split at h
  · injection h with h; subst h; exact ok66
  · injection h with h; subst h; exact ok67
  · injection h with h; subst h; exact ok68
  · injection h with h; subst h; exact ok69
  · injection h with h; subst h; exact ok70
  · injection h with h; subst h; exact ok71
  · injection h with h; subst h; exact ok72
  · injection h with h; subst h; exact ok73
  · injection h with h; subst h; exact ok74
  · injection h with h; subst h; exact ok75
  · injection h with h; subst h; exact ok76
  · injection h with h; subst h; exact ok77
  · injection h with h; subst h; exact ok78
  · injection h with h; subst h; exact ok80
  · injection h with h; subst h; exact ok81
  · injection h with h; subst h; exact ok82
  · injection h with h; subst h; exact ok84
  · injection h with h; subst h; exact ok85
  · injection h with h; subst h; exact ok86
  · injection h with h; subst h; exact ok87
  · injection h with h; subst h; exact ok89
  · injection h with h; subst h; exact ok90
  · injection h with h; subst h; exact ok91
  · injection h with h; subst h; exact ok92
  · injection h with h; subst h; exact ok93
  · injection h with h; subst h; exact ok94
  · injection h with h; subst h; exact ok95
  · injection h with h; subst h; exact ok96
  · injection h with h; subst h; exact ok97
  · injection h with h; subst h; exact ok98
  · injection h with h; subst h; exact ok99
  · injection h with h; subst h; exact ok101
  · injection h with h; subst h; exact ok102
  · injection h with h; subst h; exact ok103
  · injection h with h; subst h; exact ok104
  · injection h with h; subst h; exact ok105
  · injection h with h; subst h; exact ok106
  · injection h with h; subst h; exact ok107
  · injection h with h; subst h; exact ok108
  · injection h with h; subst h; exact ok109
  · injection h with h; subst h; exact ok110
  · injection h with h; subst h; exact ok111
  · injection h with h; subst h; exact ok112
  · injection h with h; subst h; exact ok113
  · injection h with h; subst h; exact ok114
  · injection h with h; subst h; exact ok115
  · injection h with h; subst h; exact ok116
  · cases h
theorem tab_ok : TabOk Try.prog tab := by
  intro t i h
  unfold tab at h
  split at h
  · exact tabP0_ok t i h
  exact tabP1_ok t i h
end Go.Proofs.Yticejlplbibegaa
