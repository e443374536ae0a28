/- The types of the translation, as our calculus tells them. -/
import Derived.Test.YticejlplbibegaaDoorEA
import Derived.Test.YticejlplbibegaaDoorProg
import Derived.KernelRfl
namespace Go.Proofs.YticejlplbibegaaDoor
open Go
def tabP0 : Tab := fun t => match t with
  | 1 => some ⟨.func, 1, .nilFunc⟩
  | 2 => some ⟨.int .i64, 1, .int .i64 0⟩
  | 3 => some ⟨.int .i64, 1, .int .i64 0⟩
  | 4 => some ⟨.bool, 1, .bool false⟩
  | 5 => some ⟨.int .u8, 1, .int .u8 0⟩
  | 6 => some ⟨.int .u8, 1, .int .u8 0⟩
  | 7 => some ⟨.strct [(0, 1, false), (1, 1, false), (2, 1, false), (3, 1, false)], 4, .agg #[.int .i64 0, .int .i64 0, .bool false, .int .u8 0]⟩
  | 8 => some ⟨.strct [(0, 1, false), (1, 1, false), (2, 1, false), (3, 1, false)], 4, .agg #[.int .i64 0, .int .i64 0, .bool false, .int .u8 0]⟩
  | 9 => some ⟨.str, 1, str []⟩
  | 10 => some ⟨.str, 1, str []⟩
  | 11 => some ⟨.str, 1, str []⟩
  | 12 => some ⟨.int .u64, 1, .int .u64 0⟩
  | 13 => some ⟨.strct [(0, 1, false), (1, 1, false)], 2, .agg #[str [], .int .u64 0]⟩
  | 14 => some ⟨.strct [(0, 1, false), (1, 1, false)], 2, .agg #[str [], .int .u64 0]⟩
  | 15 => some ⟨.flat, 1, .pointer none⟩
  | 16 => some ⟨.flat, 1, .pointer none⟩
  | 17 => some ⟨.flat, 1, .pointer none⟩
  | 18 => some ⟨.strct [(0, 1, false)], 1, .agg #[.pointer none]⟩
  | 19 => some ⟨.strct [(0, 1, false)], 1, .agg #[.pointer none]⟩
  | 20 => some ⟨.iface, 1, .nilIface⟩
  | 21 => some ⟨.int .i32, 1, .int .i32 0⟩
  | 22 => some ⟨.slc 9 1 16 (str []), 1, .slice none 0 0⟩
  | 23 => some ⟨.strct [(0, 1, false)], 1, .agg #[.slice none 0 0]⟩
  | 24 => some ⟨.strct [(0, 1, false)], 1, .agg #[.slice none 0 0]⟩
  | 26 => some ⟨.func, 1, .nilFunc⟩
  | 27 => some ⟨.func, 1, .nilFunc⟩
  | 28 => some ⟨.func, 1, .nilFunc⟩
  | 29 => some ⟨.func, 1, .nilFunc⟩
  | 31 => some ⟨.func, 1, .nilFunc⟩
  | 33 => some ⟨.func, 1, .nilFunc⟩
  | 34 => some ⟨.func, 1, .nilFunc⟩
  | 35 => some ⟨.func, 1, .nilFunc⟩
  | 36 => some ⟨.func, 1, .nilFunc⟩
  | 37 => some ⟨.func, 1, .nilFunc⟩
  | 38 => some ⟨.func, 1, .nilFunc⟩
  | 40 => some ⟨.func, 1, .nilFunc⟩
  | 41 => some ⟨.func, 1, .nilFunc⟩
  | 42 => some ⟨.func, 1, .nilFunc⟩
  | 43 => some ⟨.func, 1, .nilFunc⟩
  | 44 => some ⟨.func, 1, .nilFunc⟩
  | 45 => some ⟨.func, 1, .nilFunc⟩
  | 46 => some ⟨.func, 1, .nilFunc⟩
  | 47 => some ⟨.func, 1, .nilFunc⟩
  | 48 => some ⟨.func, 1, .nilFunc⟩
  | 49 => some ⟨.func, 1, .nilFunc⟩
  | 50 => some ⟨.slc 2 1 8 (.int .i64 0), 1, .slice none 0 0⟩
  | 51 => some ⟨.func, 1, .nilFunc⟩
  | 52 => some ⟨.func, 1, .nilFunc⟩
  | 53 => some ⟨.func, 1, .nilFunc⟩
  | 54 => some ⟨.func, 1, .nilFunc⟩
  | 55 => some ⟨.func, 1, .nilFunc⟩
  | 56 => some ⟨.slc 5 1 1 (.int .u8 0), 1, .slice none 0 0⟩
  | 57 => some ⟨.func, 1, .nilFunc⟩
  | 58 => some ⟨.func, 1, .nilFunc⟩
  | 59 => some ⟨.func, 1, .nilFunc⟩
  | 63 => some ⟨.func, 1, .nilFunc⟩
  | 64 => some ⟨.func, 1, .nilFunc⟩
  | 65 => some ⟨.flat, 1, .pointer none⟩
  | 66 => some ⟨.func, 1, .nilFunc⟩
  | 67 => some ⟨.func, 1, .nilFunc⟩
  | _ => none
def tabP1 : Tab := fun t => match t with
  | 69 => some ⟨.func, 1, .nilFunc⟩
  | 70 => some ⟨.func, 1, .nilFunc⟩
  | 71 => some ⟨.func, 1, .nilFunc⟩
  | 72 => some ⟨.func, 1, .nilFunc⟩
  | 73 => some ⟨.func, 1, .nilFunc⟩
  | 74 => some ⟨.int .u64, 1, .int .u64 0⟩
  | 75 => some ⟨.func, 1, .nilFunc⟩
  | 76 => some ⟨.func, 1, .nilFunc⟩
  | 78 => some ⟨.strct [(0, 1, false), (1, 1, false)], 2, .agg #[.int .u8 0, .int .u8 0]⟩
  | 79 => some ⟨.strct [(0, 1, false), (1, 1, false)], 2, .agg #[.int .u8 0, .int .u8 0]⟩
  | 80 => some ⟨.arr 16 2 true, 32, .agg #[.int .u8 0, .int .u8 0, .int .u8 0, .int .u8 0, .int .u8 0, .int .u8 0, .int .u8 0, .int .u8 0, .int .u8 0, .int .u8 0, .int .u8 0, .int .u8 0, .int .u8 0, .int .u8 0, .int .u8 0, .int .u8 0, .int .u8 0, .int .u8 0, .int .u8 0, .int .u8 0, .int .u8 0, .int .u8 0, .int .u8 0, .int .u8 0, .int .u8 0, .int .u8 0, .int .u8 0, .int .u8 0, .int .u8 0, .int .u8 0, .int .u8 0, .int .u8 0]⟩
  | 81 => some ⟨.int .u32, 1, .int .u32 0⟩
  | 83 => some ⟨.func, 1, .nilFunc⟩
  | 84 => some ⟨.func, 1, .nilFunc⟩
  | 85 => some ⟨.func, 1, .nilFunc⟩
  | 86 => some ⟨.strct [(0, 1, false), (1, 1, false), (2, 1, false), (3, 1, false)], 4, .agg #[.pointer none, .pointer none, .pointer none, str []]⟩
  | 87 => some ⟨.strct [(0, 1, false), (1, 1, false), (2, 1, false), (3, 1, false)], 4, .agg #[.pointer none, .pointer none, .pointer none, str []]⟩
  | 88 => some ⟨.arr 0 1 false, 0, .agg #[]⟩
  | 89 => some ⟨.strct [(0, 0, true)], 0, .agg #[]⟩
  | 90 => some ⟨.strct [(0, 0, true)], 0, .agg #[]⟩
  | 91 => some ⟨.func, 1, .nilFunc⟩
  | 92 => some ⟨.int .u8, 1, .int .u8 0⟩
  | 93 => some ⟨.int .u8, 1, .int .u8 0⟩
  | 94 => some ⟨.func, 1, .nilFunc⟩
  | 95 => some ⟨.flat, 1, .pointer none⟩
  | 96 => some ⟨.int .i32, 1, .int .i32 0⟩
  | 97 => some ⟨.int .i32, 1, .int .i32 0⟩
  | 98 => some ⟨.strct [(0, 1, false), (1, 1, false), (2, 1, false), (3, 1, false), (4, 1, false), (5, 1, false), (6, 1, false), (7, 1, false), (8, 1, false), (9, 1, false), (10, 1, false)], 11, .agg #[.int .u64 0, .int .u64 0, .int .u32 0, .int .u8 0, .int .u8 0, .int .u8 0, .int .u8 0, .nilFunc, .pointer none, .int .i32 0, .int .i32 0]⟩
  | 99 => some ⟨.strct [(0, 1, false), (1, 1, false), (2, 1, false), (3, 1, false), (4, 1, false), (5, 1, false), (6, 1, false), (7, 1, false), (8, 1, false), (9, 1, false), (10, 1, false)], 11, .agg #[.int .u64 0, .int .u64 0, .int .u32 0, .int .u8 0, .int .u8 0, .int .u8 0, .int .u8 0, .nilFunc, .pointer none, .int .i32 0, .int .i32 0]⟩
  | 100 => some ⟨.func, 1, .nilFunc⟩
  | _ => none
def tab : Tab := fun t => if t < 69 then tabP0 t else tabP1 t
@[simp] theorem tab1 : tab 1 = some ⟨.func, 1, .nilFunc⟩ := rfl
@[simp] theorem tab2 : tab 2 = some ⟨.int .i64, 1, .int .i64 0⟩ := rfl
@[simp] theorem tab3 : tab 3 = some ⟨.int .i64, 1, .int .i64 0⟩ := rfl
@[simp] theorem tab4 : tab 4 = some ⟨.bool, 1, .bool false⟩ := rfl
@[simp] theorem tab5 : tab 5 = some ⟨.int .u8, 1, .int .u8 0⟩ := rfl
@[simp] theorem tab6 : tab 6 = some ⟨.int .u8, 1, .int .u8 0⟩ := rfl
@[simp] theorem tab7 : tab 7 = some ⟨.strct [(0, 1, false), (1, 1, false), (2, 1, false), (3, 1, false)], 4, .agg #[.int .i64 0, .int .i64 0, .bool false, .int .u8 0]⟩ := rfl
@[simp] theorem tab8 : tab 8 = some ⟨.strct [(0, 1, false), (1, 1, false), (2, 1, false), (3, 1, false)], 4, .agg #[.int .i64 0, .int .i64 0, .bool false, .int .u8 0]⟩ := rfl
@[simp] theorem tab9 : tab 9 = some ⟨.str, 1, str []⟩ := rfl
@[simp] theorem tab10 : tab 10 = some ⟨.str, 1, str []⟩ := rfl
@[simp] theorem tab11 : tab 11 = some ⟨.str, 1, str []⟩ := rfl
@[simp] theorem tab12 : tab 12 = some ⟨.int .u64, 1, .int .u64 0⟩ := rfl
@[simp] theorem tab13 : tab 13 = some ⟨.strct [(0, 1, false), (1, 1, false)], 2, .agg #[str [], .int .u64 0]⟩ := rfl
@[simp] theorem tab14 : tab 14 = some ⟨.strct [(0, 1, false), (1, 1, false)], 2, .agg #[str [], .int .u64 0]⟩ := rfl
@[simp] theorem tab15 : tab 15 = some ⟨.flat, 1, .pointer none⟩ := rfl
@[simp] theorem tab16 : tab 16 = some ⟨.flat, 1, .pointer none⟩ := rfl
@[simp] theorem tab17 : tab 17 = some ⟨.flat, 1, .pointer none⟩ := rfl
@[simp] theorem tab18 : tab 18 = some ⟨.strct [(0, 1, false)], 1, .agg #[.pointer none]⟩ := rfl
@[simp] theorem tab19 : tab 19 = some ⟨.strct [(0, 1, false)], 1, .agg #[.pointer none]⟩ := rfl
@[simp] theorem tab20 : tab 20 = some ⟨.iface, 1, .nilIface⟩ := rfl
@[simp] theorem tab21 : tab 21 = some ⟨.int .i32, 1, .int .i32 0⟩ := rfl
@[simp] theorem tab22 : tab 22 = some ⟨.slc 9 1 16 (str []), 1, .slice none 0 0⟩ := rfl
@[simp] theorem tab23 : tab 23 = some ⟨.strct [(0, 1, false)], 1, .agg #[.slice none 0 0]⟩ := rfl
@[simp] theorem tab24 : tab 24 = some ⟨.strct [(0, 1, false)], 1, .agg #[.slice none 0 0]⟩ := rfl
@[simp] theorem tab26 : tab 26 = some ⟨.func, 1, .nilFunc⟩ := rfl
@[simp] theorem tab27 : tab 27 = some ⟨.func, 1, .nilFunc⟩ := rfl
@[simp] theorem tab28 : tab 28 = some ⟨.func, 1, .nilFunc⟩ := rfl
@[simp] theorem tab29 : tab 29 = some ⟨.func, 1, .nilFunc⟩ := rfl
@[simp] theorem tab31 : tab 31 = some ⟨.func, 1, .nilFunc⟩ := rfl
@[simp] theorem tab33 : tab 33 = some ⟨.func, 1, .nilFunc⟩ := rfl
@[simp] theorem tab34 : tab 34 = some ⟨.func, 1, .nilFunc⟩ := rfl
@[simp] theorem tab35 : tab 35 = some ⟨.func, 1, .nilFunc⟩ := rfl
@[simp] theorem tab36 : tab 36 = some ⟨.func, 1, .nilFunc⟩ := rfl
@[simp] theorem tab37 : tab 37 = some ⟨.func, 1, .nilFunc⟩ := rfl
@[simp] theorem tab38 : tab 38 = some ⟨.func, 1, .nilFunc⟩ := rfl
@[simp] theorem tab40 : tab 40 = some ⟨.func, 1, .nilFunc⟩ := rfl
@[simp] theorem tab41 : tab 41 = some ⟨.func, 1, .nilFunc⟩ := rfl
@[simp] theorem tab42 : tab 42 = some ⟨.func, 1, .nilFunc⟩ := rfl
@[simp] theorem tab43 : tab 43 = some ⟨.func, 1, .nilFunc⟩ := rfl
@[simp] theorem tab44 : tab 44 = some ⟨.func, 1, .nilFunc⟩ := rfl
@[simp] theorem tab45 : tab 45 = some ⟨.func, 1, .nilFunc⟩ := rfl
@[simp] theorem tab46 : tab 46 = some ⟨.func, 1, .nilFunc⟩ := rfl
@[simp] theorem tab47 : tab 47 = some ⟨.func, 1, .nilFunc⟩ := rfl
@[simp] theorem tab48 : tab 48 = some ⟨.func, 1, .nilFunc⟩ := rfl
@[simp] theorem tab49 : tab 49 = some ⟨.func, 1, .nilFunc⟩ := rfl
@[simp] theorem tab50 : tab 50 = some ⟨.slc 2 1 8 (.int .i64 0), 1, .slice none 0 0⟩ := rfl
@[simp] theorem tab51 : tab 51 = some ⟨.func, 1, .nilFunc⟩ := rfl
@[simp] theorem tab52 : tab 52 = some ⟨.func, 1, .nilFunc⟩ := rfl
@[simp] theorem tab53 : tab 53 = some ⟨.func, 1, .nilFunc⟩ := rfl
@[simp] theorem tab54 : tab 54 = some ⟨.func, 1, .nilFunc⟩ := rfl
@[simp] theorem tab55 : tab 55 = some ⟨.func, 1, .nilFunc⟩ := rfl
@[simp] theorem tab56 : tab 56 = some ⟨.slc 5 1 1 (.int .u8 0), 1, .slice none 0 0⟩ := rfl
@[simp] theorem tab57 : tab 57 = some ⟨.func, 1, .nilFunc⟩ := rfl
@[simp] theorem tab58 : tab 58 = some ⟨.func, 1, .nilFunc⟩ := rfl
@[simp] theorem tab59 : tab 59 = some ⟨.func, 1, .nilFunc⟩ := rfl
@[simp] theorem tab63 : tab 63 = some ⟨.func, 1, .nilFunc⟩ := rfl
@[simp] theorem tab64 : tab 64 = some ⟨.func, 1, .nilFunc⟩ := rfl
@[simp] theorem tab65 : tab 65 = some ⟨.flat, 1, .pointer none⟩ := rfl
@[simp] theorem tab66 : tab 66 = some ⟨.func, 1, .nilFunc⟩ := rfl
@[simp] theorem tab67 : tab 67 = some ⟨.func, 1, .nilFunc⟩ := rfl
@[simp] theorem tab69 : tab 69 = some ⟨.func, 1, .nilFunc⟩ := rfl
@[simp] theorem tab70 : tab 70 = some ⟨.func, 1, .nilFunc⟩ := rfl
@[simp] theorem tab71 : tab 71 = some ⟨.func, 1, .nilFunc⟩ := rfl
@[simp] theorem tab72 : tab 72 = some ⟨.func, 1, .nilFunc⟩ := rfl
@[simp] theorem tab73 : tab 73 = some ⟨.func, 1, .nilFunc⟩ := rfl
@[simp] theorem tab74 : tab 74 = some ⟨.int .u64, 1, .int .u64 0⟩ := rfl
@[simp] theorem tab75 : tab 75 = some ⟨.func, 1, .nilFunc⟩ := rfl
@[simp] theorem tab76 : tab 76 = some ⟨.func, 1, .nilFunc⟩ := rfl
@[simp] theorem tab78 : tab 78 = some ⟨.strct [(0, 1, false), (1, 1, false)], 2, .agg #[.int .u8 0, .int .u8 0]⟩ := rfl
@[simp] theorem tab79 : tab 79 = some ⟨.strct [(0, 1, false), (1, 1, false)], 2, .agg #[.int .u8 0, .int .u8 0]⟩ := rfl
@[simp] theorem tab80 : tab 80 = some ⟨.arr 16 2 true, 32, .agg #[.int .u8 0, .int .u8 0, .int .u8 0, .int .u8 0, .int .u8 0, .int .u8 0, .int .u8 0, .int .u8 0, .int .u8 0, .int .u8 0, .int .u8 0, .int .u8 0, .int .u8 0, .int .u8 0, .int .u8 0, .int .u8 0, .int .u8 0, .int .u8 0, .int .u8 0, .int .u8 0, .int .u8 0, .int .u8 0, .int .u8 0, .int .u8 0, .int .u8 0, .int .u8 0, .int .u8 0, .int .u8 0, .int .u8 0, .int .u8 0, .int .u8 0, .int .u8 0]⟩ := rfl
@[simp] theorem tab81 : tab 81 = some ⟨.int .u32, 1, .int .u32 0⟩ := rfl
@[simp] theorem tab83 : tab 83 = some ⟨.func, 1, .nilFunc⟩ := rfl
@[simp] theorem tab84 : tab 84 = some ⟨.func, 1, .nilFunc⟩ := rfl
@[simp] theorem tab85 : tab 85 = some ⟨.func, 1, .nilFunc⟩ := rfl
@[simp] theorem tab86 : tab 86 = some ⟨.strct [(0, 1, false), (1, 1, false), (2, 1, false), (3, 1, false)], 4, .agg #[.pointer none, .pointer none, .pointer none, str []]⟩ := rfl
@[simp] theorem tab87 : tab 87 = some ⟨.strct [(0, 1, false), (1, 1, false), (2, 1, false), (3, 1, false)], 4, .agg #[.pointer none, .pointer none, .pointer none, str []]⟩ := rfl
@[simp] theorem tab88 : tab 88 = some ⟨.arr 0 1 false, 0, .agg #[]⟩ := rfl
@[simp] theorem tab89 : tab 89 = some ⟨.strct [(0, 0, true)], 0, .agg #[]⟩ := rfl
@[simp] theorem tab90 : tab 90 = some ⟨.strct [(0, 0, true)], 0, .agg #[]⟩ := rfl
@[simp] theorem tab91 : tab 91 = some ⟨.func, 1, .nilFunc⟩ := rfl
@[simp] theorem tab92 : tab 92 = some ⟨.int .u8, 1, .int .u8 0⟩ := rfl
@[simp] theorem tab93 : tab 93 = some ⟨.int .u8, 1, .int .u8 0⟩ := rfl
@[simp] theorem tab94 : tab 94 = some ⟨.func, 1, .nilFunc⟩ := rfl
@[simp] theorem tab95 : tab 95 = some ⟨.flat, 1, .pointer none⟩ := rfl
@[simp] theorem tab96 : tab 96 = some ⟨.int .i32, 1, .int .i32 0⟩ := rfl
@[simp] theorem tab97 : tab 97 = some ⟨.int .i32, 1, .int .i32 0⟩ := rfl
@[simp] theorem tab98 : tab 98 = some ⟨.strct [(0, 1, false), (1, 1, false), (2, 1, false), (3, 1, false), (4, 1, false), (5, 1, false), (6, 1, false), (7, 1, false), (8, 1, false), (9, 1, false), (10, 1, false)], 11, .agg #[.int .u64 0, .int .u64 0, .int .u32 0, .int .u8 0, .int .u8 0, .int .u8 0, .int .u8 0, .nilFunc, .pointer none, .int .i32 0, .int .i32 0]⟩ := rfl
@[simp] theorem tab99 : tab 99 = some ⟨.strct [(0, 1, false), (1, 1, false), (2, 1, false), (3, 1, false), (4, 1, false), (5, 1, false), (6, 1, false), (7, 1, false), (8, 1, false), (9, 1, false), (10, 1, false)], 11, .agg #[.int .u64 0, .int .u64 0, .int .u32 0, .int .u8 0, .int .u8 0, .int .u8 0, .int .u8 0, .nilFunc, .pointer none, .int .i32 0, .int .i32 0]⟩ := rfl
@[simp] theorem tab100 : tab 100 = some ⟨.func, 1, .nilFunc⟩ := rfl
theorem info_of {t : TypeId} {z : Value} {s b : Nat} (h : (Tryd.prog.info? t).map (fun i => (i.zero, i.size, i.bytes)) = some (some z, s, b)) : ∃ I, Tryd.prog.info? t = some I ∧ I.size = s ∧ I.bytes = b ∧ I.zero = some z := by
  obtain ⟨I, h1, h2⟩ := Option.map_eq_some_iff.1 h
  injection h2 with h2 h3
  injection h3 with h3 h4
  exact ⟨I, h1, h3, h4, h2⟩
theorem info_two {t : TypeId} {z : Value} {s b : Nat} (h : (Tryd.prog.info? t).map (fun i => (i.zero, i.size, i.bytes)) = some (some z, s, b)) : ∃ I, Tryd.prog.info? t = some I ∧ I.zero = some z ∧ I.size = s := by
  obtain ⟨I, h1, h2, _, h4⟩ := info_of h
  exact ⟨I, h1, h4, h2⟩
theorem inf1 : (Tryd.prog.info? 1).map (fun i => (i.zero, i.size, i.bytes)) = some (some (.nilFunc), 1, 8) := by kernel_rfl
theorem inf2 : (Tryd.prog.info? 2).map (fun i => (i.zero, i.size, i.bytes)) = some (some (.int .i64 0), 1, 8) := by kernel_rfl
theorem inf3 : (Tryd.prog.info? 3).map (fun i => (i.zero, i.size, i.bytes)) = some (some (.int .i64 0), 1, 8) := by kernel_rfl
theorem inf4 : (Tryd.prog.info? 4).map (fun i => (i.zero, i.size, i.bytes)) = some (some (.bool false), 1, 1) := by kernel_rfl
theorem inf5 : (Tryd.prog.info? 5).map (fun i => (i.zero, i.size, i.bytes)) = some (some (.int .u8 0), 1, 1) := by kernel_rfl
theorem inf6 : (Tryd.prog.info? 6).map (fun i => (i.zero, i.size, i.bytes)) = some (some (.int .u8 0), 1, 1) := by kernel_rfl
theorem inf7 : (Tryd.prog.info? 7).map (fun i => (i.zero, i.size, i.bytes)) = some (some (.agg #[.int .i64 0, .int .i64 0, .bool false, .int .u8 0]), 4, 24) := by kernel_rfl
theorem inf8 : (Tryd.prog.info? 8).map (fun i => (i.zero, i.size, i.bytes)) = some (some (.agg #[.int .i64 0, .int .i64 0, .bool false, .int .u8 0]), 4, 24) := by kernel_rfl
theorem inf9 : (Tryd.prog.info? 9).map (fun i => (i.zero, i.size, i.bytes)) = some (some (str []), 1, 16) := by kernel_rfl
theorem inf10 : (Tryd.prog.info? 10).map (fun i => (i.zero, i.size, i.bytes)) = some (some (str []), 1, 16) := by kernel_rfl
theorem inf11 : (Tryd.prog.info? 11).map (fun i => (i.zero, i.size, i.bytes)) = some (some (str []), 1, 16) := by kernel_rfl
theorem inf12 : (Tryd.prog.info? 12).map (fun i => (i.zero, i.size, i.bytes)) = some (some (.int .u64 0), 1, 8) := by kernel_rfl
theorem inf13 : (Tryd.prog.info? 13).map (fun i => (i.zero, i.size, i.bytes)) = some (some (.agg #[str [], .int .u64 0]), 2, 24) := by kernel_rfl
theorem inf14 : (Tryd.prog.info? 14).map (fun i => (i.zero, i.size, i.bytes)) = some (some (.agg #[str [], .int .u64 0]), 2, 24) := by kernel_rfl
theorem inf15 : (Tryd.prog.info? 15).map (fun i => (i.zero, i.size, i.bytes)) = some (some (.pointer none), 1, 8) := by kernel_rfl
theorem inf16 : (Tryd.prog.info? 16).map (fun i => (i.zero, i.size, i.bytes)) = some (some (.pointer none), 1, 8) := by kernel_rfl
theorem inf17 : (Tryd.prog.info? 17).map (fun i => (i.zero, i.size, i.bytes)) = some (some (.pointer none), 1, 8) := by kernel_rfl
theorem inf18 : (Tryd.prog.info? 18).map (fun i => (i.zero, i.size, i.bytes)) = some (some (.agg #[.pointer none]), 1, 8) := by kernel_rfl
theorem inf19 : (Tryd.prog.info? 19).map (fun i => (i.zero, i.size, i.bytes)) = some (some (.agg #[.pointer none]), 1, 8) := by kernel_rfl
theorem inf20 : (Tryd.prog.info? 20).map (fun i => (i.zero, i.size, i.bytes)) = some (some (.nilIface), 1, 16) := by kernel_rfl
theorem inf21 : (Tryd.prog.info? 21).map (fun i => (i.zero, i.size, i.bytes)) = some (some (.int .i32 0), 1, 4) := by kernel_rfl
theorem inf22 : (Tryd.prog.info? 22).map (fun i => (i.zero, i.size, i.bytes)) = some (some (.slice none 0 0), 1, 24) := by kernel_rfl
theorem inf23 : (Tryd.prog.info? 23).map (fun i => (i.zero, i.size, i.bytes)) = some (some (.agg #[.slice none 0 0]), 1, 24) := by kernel_rfl
theorem inf24 : (Tryd.prog.info? 24).map (fun i => (i.zero, i.size, i.bytes)) = some (some (.agg #[.slice none 0 0]), 1, 24) := by kernel_rfl
theorem inf26 : (Tryd.prog.info? 26).map (fun i => (i.zero, i.size, i.bytes)) = some (some (.nilFunc), 1, 8) := by kernel_rfl
theorem inf27 : (Tryd.prog.info? 27).map (fun i => (i.zero, i.size, i.bytes)) = some (some (.nilFunc), 1, 8) := by kernel_rfl
theorem inf28 : (Tryd.prog.info? 28).map (fun i => (i.zero, i.size, i.bytes)) = some (some (.nilFunc), 1, 8) := by kernel_rfl
theorem inf29 : (Tryd.prog.info? 29).map (fun i => (i.zero, i.size, i.bytes)) = some (some (.nilFunc), 1, 8) := by kernel_rfl
theorem inf31 : (Tryd.prog.info? 31).map (fun i => (i.zero, i.size, i.bytes)) = some (some (.nilFunc), 1, 8) := by kernel_rfl
theorem inf33 : (Tryd.prog.info? 33).map (fun i => (i.zero, i.size, i.bytes)) = some (some (.nilFunc), 1, 8) := by kernel_rfl
theorem inf34 : (Tryd.prog.info? 34).map (fun i => (i.zero, i.size, i.bytes)) = some (some (.nilFunc), 1, 8) := by kernel_rfl
theorem inf35 : (Tryd.prog.info? 35).map (fun i => (i.zero, i.size, i.bytes)) = some (some (.nilFunc), 1, 8) := by kernel_rfl
theorem inf36 : (Tryd.prog.info? 36).map (fun i => (i.zero, i.size, i.bytes)) = some (some (.nilFunc), 1, 8) := by kernel_rfl
theorem inf37 : (Tryd.prog.info? 37).map (fun i => (i.zero, i.size, i.bytes)) = some (some (.nilFunc), 1, 8) := by kernel_rfl
theorem inf38 : (Tryd.prog.info? 38).map (fun i => (i.zero, i.size, i.bytes)) = some (some (.nilFunc), 1, 8) := by kernel_rfl
theorem inf40 : (Tryd.prog.info? 40).map (fun i => (i.zero, i.size, i.bytes)) = some (some (.nilFunc), 1, 8) := by kernel_rfl
theorem inf41 : (Tryd.prog.info? 41).map (fun i => (i.zero, i.size, i.bytes)) = some (some (.nilFunc), 1, 8) := by kernel_rfl
theorem inf42 : (Tryd.prog.info? 42).map (fun i => (i.zero, i.size, i.bytes)) = some (some (.nilFunc), 1, 8) := by kernel_rfl
theorem inf43 : (Tryd.prog.info? 43).map (fun i => (i.zero, i.size, i.bytes)) = some (some (.nilFunc), 1, 8) := by kernel_rfl
theorem inf44 : (Tryd.prog.info? 44).map (fun i => (i.zero, i.size, i.bytes)) = some (some (.nilFunc), 1, 8) := by kernel_rfl
theorem inf45 : (Tryd.prog.info? 45).map (fun i => (i.zero, i.size, i.bytes)) = some (some (.nilFunc), 1, 8) := by kernel_rfl
theorem inf46 : (Tryd.prog.info? 46).map (fun i => (i.zero, i.size, i.bytes)) = some (some (.nilFunc), 1, 8) := by kernel_rfl
theorem inf47 : (Tryd.prog.info? 47).map (fun i => (i.zero, i.size, i.bytes)) = some (some (.nilFunc), 1, 8) := by kernel_rfl
theorem inf48 : (Tryd.prog.info? 48).map (fun i => (i.zero, i.size, i.bytes)) = some (some (.nilFunc), 1, 8) := by kernel_rfl
theorem inf49 : (Tryd.prog.info? 49).map (fun i => (i.zero, i.size, i.bytes)) = some (some (.nilFunc), 1, 8) := by kernel_rfl
theorem inf50 : (Tryd.prog.info? 50).map (fun i => (i.zero, i.size, i.bytes)) = some (some (.slice none 0 0), 1, 24) := by kernel_rfl
theorem inf51 : (Tryd.prog.info? 51).map (fun i => (i.zero, i.size, i.bytes)) = some (some (.nilFunc), 1, 8) := by kernel_rfl
theorem inf52 : (Tryd.prog.info? 52).map (fun i => (i.zero, i.size, i.bytes)) = some (some (.nilFunc), 1, 8) := by kernel_rfl
theorem inf53 : (Tryd.prog.info? 53).map (fun i => (i.zero, i.size, i.bytes)) = some (some (.nilFunc), 1, 8) := by kernel_rfl
theorem inf54 : (Tryd.prog.info? 54).map (fun i => (i.zero, i.size, i.bytes)) = some (some (.nilFunc), 1, 8) := by kernel_rfl
theorem inf55 : (Tryd.prog.info? 55).map (fun i => (i.zero, i.size, i.bytes)) = some (some (.nilFunc), 1, 8) := by kernel_rfl
theorem inf56 : (Tryd.prog.info? 56).map (fun i => (i.zero, i.size, i.bytes)) = some (some (.slice none 0 0), 1, 24) := by kernel_rfl
theorem inf57 : (Tryd.prog.info? 57).map (fun i => (i.zero, i.size, i.bytes)) = some (some (.nilFunc), 1, 8) := by kernel_rfl
theorem inf58 : (Tryd.prog.info? 58).map (fun i => (i.zero, i.size, i.bytes)) = some (some (.nilFunc), 1, 8) := by kernel_rfl
theorem inf59 : (Tryd.prog.info? 59).map (fun i => (i.zero, i.size, i.bytes)) = some (some (.nilFunc), 1, 8) := by kernel_rfl
theorem inf63 : (Tryd.prog.info? 63).map (fun i => (i.zero, i.size, i.bytes)) = some (some (.nilFunc), 1, 8) := by kernel_rfl
theorem inf64 : (Tryd.prog.info? 64).map (fun i => (i.zero, i.size, i.bytes)) = some (some (.nilFunc), 1, 8) := by kernel_rfl
theorem inf65 : (Tryd.prog.info? 65).map (fun i => (i.zero, i.size, i.bytes)) = some (some (.pointer none), 1, 8) := by kernel_rfl
theorem inf66 : (Tryd.prog.info? 66).map (fun i => (i.zero, i.size, i.bytes)) = some (some (.nilFunc), 1, 8) := by kernel_rfl
theorem inf67 : (Tryd.prog.info? 67).map (fun i => (i.zero, i.size, i.bytes)) = some (some (.nilFunc), 1, 8) := by kernel_rfl
theorem inf69 : (Tryd.prog.info? 69).map (fun i => (i.zero, i.size, i.bytes)) = some (some (.nilFunc), 1, 8) := by kernel_rfl
theorem inf70 : (Tryd.prog.info? 70).map (fun i => (i.zero, i.size, i.bytes)) = some (some (.nilFunc), 1, 8) := by kernel_rfl
theorem inf71 : (Tryd.prog.info? 71).map (fun i => (i.zero, i.size, i.bytes)) = some (some (.nilFunc), 1, 8) := by kernel_rfl
theorem inf72 : (Tryd.prog.info? 72).map (fun i => (i.zero, i.size, i.bytes)) = some (some (.nilFunc), 1, 8) := by kernel_rfl
theorem inf73 : (Tryd.prog.info? 73).map (fun i => (i.zero, i.size, i.bytes)) = some (some (.nilFunc), 1, 8) := by kernel_rfl
theorem inf74 : (Tryd.prog.info? 74).map (fun i => (i.zero, i.size, i.bytes)) = some (some (.int .u64 0), 1, 8) := by kernel_rfl
theorem inf75 : (Tryd.prog.info? 75).map (fun i => (i.zero, i.size, i.bytes)) = some (some (.nilFunc), 1, 8) := by kernel_rfl
theorem inf76 : (Tryd.prog.info? 76).map (fun i => (i.zero, i.size, i.bytes)) = some (some (.nilFunc), 1, 8) := by kernel_rfl
theorem inf78 : (Tryd.prog.info? 78).map (fun i => (i.zero, i.size, i.bytes)) = some (some (.agg #[.int .u8 0, .int .u8 0]), 2, 2) := by kernel_rfl
theorem inf79 : (Tryd.prog.info? 79).map (fun i => (i.zero, i.size, i.bytes)) = some (some (.agg #[.int .u8 0, .int .u8 0]), 2, 2) := by kernel_rfl
theorem inf80 : (Tryd.prog.info? 80).map (fun i => (i.zero, i.size, i.bytes)) = some (some (.agg #[.int .u8 0, .int .u8 0, .int .u8 0, .int .u8 0, .int .u8 0, .int .u8 0, .int .u8 0, .int .u8 0, .int .u8 0, .int .u8 0, .int .u8 0, .int .u8 0, .int .u8 0, .int .u8 0, .int .u8 0, .int .u8 0, .int .u8 0, .int .u8 0, .int .u8 0, .int .u8 0, .int .u8 0, .int .u8 0, .int .u8 0, .int .u8 0, .int .u8 0, .int .u8 0, .int .u8 0, .int .u8 0, .int .u8 0, .int .u8 0, .int .u8 0, .int .u8 0]), 32, 32) := by kernel_rfl
theorem inf81 : (Tryd.prog.info? 81).map (fun i => (i.zero, i.size, i.bytes)) = some (some (.int .u32 0), 1, 4) := by kernel_rfl
theorem inf83 : (Tryd.prog.info? 83).map (fun i => (i.zero, i.size, i.bytes)) = some (some (.nilFunc), 1, 8) := by kernel_rfl
theorem inf84 : (Tryd.prog.info? 84).map (fun i => (i.zero, i.size, i.bytes)) = some (some (.nilFunc), 1, 8) := by kernel_rfl
theorem inf85 : (Tryd.prog.info? 85).map (fun i => (i.zero, i.size, i.bytes)) = some (some (.nilFunc), 1, 8) := by kernel_rfl
theorem inf86 : (Tryd.prog.info? 86).map (fun i => (i.zero, i.size, i.bytes)) = some (some (.agg #[.pointer none, .pointer none, .pointer none, str []]), 4, 40) := by kernel_rfl
theorem inf87 : (Tryd.prog.info? 87).map (fun i => (i.zero, i.size, i.bytes)) = some (some (.agg #[.pointer none, .pointer none, .pointer none, str []]), 4, 40) := by kernel_rfl
theorem inf88 : (Tryd.prog.info? 88).map (fun i => (i.zero, i.size, i.bytes)) = some (some (.agg #[]), 0, 0) := by kernel_rfl
theorem inf89 : (Tryd.prog.info? 89).map (fun i => (i.zero, i.size, i.bytes)) = some (some (.agg #[]), 0, 0) := by kernel_rfl
theorem inf90 : (Tryd.prog.info? 90).map (fun i => (i.zero, i.size, i.bytes)) = some (some (.agg #[]), 0, 0) := by kernel_rfl
theorem inf91 : (Tryd.prog.info? 91).map (fun i => (i.zero, i.size, i.bytes)) = some (some (.nilFunc), 1, 8) := by kernel_rfl
theorem inf92 : (Tryd.prog.info? 92).map (fun i => (i.zero, i.size, i.bytes)) = some (some (.int .u8 0), 1, 1) := by kernel_rfl
theorem inf93 : (Tryd.prog.info? 93).map (fun i => (i.zero, i.size, i.bytes)) = some (some (.int .u8 0), 1, 1) := by kernel_rfl
theorem inf94 : (Tryd.prog.info? 94).map (fun i => (i.zero, i.size, i.bytes)) = some (some (.nilFunc), 1, 8) := by kernel_rfl
theorem inf95 : (Tryd.prog.info? 95).map (fun i => (i.zero, i.size, i.bytes)) = some (some (.pointer none), 1, 8) := by kernel_rfl
theorem inf96 : (Tryd.prog.info? 96).map (fun i => (i.zero, i.size, i.bytes)) = some (some (.int .i32 0), 1, 4) := by kernel_rfl
theorem inf97 : (Tryd.prog.info? 97).map (fun i => (i.zero, i.size, i.bytes)) = some (some (.int .i32 0), 1, 4) := by kernel_rfl
theorem inf98 : (Tryd.prog.info? 98).map (fun i => (i.zero, i.size, i.bytes)) = some (some (.agg #[.int .u64 0, .int .u64 0, .int .u32 0, .int .u8 0, .int .u8 0, .int .u8 0, .int .u8 0, .nilFunc, .pointer none, .int .i32 0, .int .i32 0]), 11, 48) := by kernel_rfl
theorem inf99 : (Tryd.prog.info? 99).map (fun i => (i.zero, i.size, i.bytes)) = some (some (.agg #[.int .u64 0, .int .u64 0, .int .u32 0, .int .u8 0, .int .u8 0, .int .u8 0, .int .u8 0, .nilFunc, .pointer none, .int .i32 0, .int .i32 0]), 11, 48) := by kernel_rfl
theorem inf100 : (Tryd.prog.info? 100).map (fun i => (i.zero, i.size, i.bytes)) = some (some (.nilFunc), 1, 8) := by kernel_rfl
theorem ok1 : TI.ok Tryd.prog 1 ⟨.func, 1, .nilFunc⟩ := ⟨⟨_, _, _, Tryd.underlying1⟩, info_two inf1⟩
theorem ok2 : TI.ok Tryd.prog 2 ⟨.int .i64, 1, .int .i64 0⟩ := ⟨Tryd.underlying2, info_two inf2⟩
theorem ok3 : TI.ok Tryd.prog 3 ⟨.int .i64, 1, .int .i64 0⟩ := ⟨Tryd.underlying3, info_two inf3⟩
theorem ok4 : TI.ok Tryd.prog 4 ⟨.bool, 1, .bool false⟩ := ⟨Tryd.underlying4, info_two inf4⟩
theorem ok5 : TI.ok Tryd.prog 5 ⟨.int .u8, 1, .int .u8 0⟩ := ⟨Tryd.underlying5, info_two inf5⟩
theorem ok6 : TI.ok Tryd.prog 6 ⟨.int .u8, 1, .int .u8 0⟩ := ⟨Tryd.underlying6, info_two inf6⟩
theorem ok7 : TI.ok Tryd.prog 7 ⟨.strct [(0, 1, false), (1, 1, false), (2, 1, false), (3, 1, false)], 4, .agg #[.int .i64 0, .int .i64 0, .bool false, .int .u8 0]⟩ := ⟨⟨_, Tryd.underlying7, by kernel_rfl, by
    intro f hf
    simp only [List.mem_cons, List.not_mem_nil, or_false] at hf
    (first | (rcases hf with rfl | rfl | rfl | rfl) | (obtain rfl := hf)) <;> exact ⟨by kernel_rfl, by kernel_rfl⟩⟩, info_two inf7⟩
theorem ok8 : TI.ok Tryd.prog 8 ⟨.strct [(0, 1, false), (1, 1, false), (2, 1, false), (3, 1, false)], 4, .agg #[.int .i64 0, .int .i64 0, .bool false, .int .u8 0]⟩ := ⟨⟨_, Tryd.underlying8, by kernel_rfl, by
    intro f hf
    simp only [List.mem_cons, List.not_mem_nil, or_false] at hf
    (first | (rcases hf with rfl | rfl | rfl | rfl) | (obtain rfl := hf)) <;> exact ⟨by kernel_rfl, by kernel_rfl⟩⟩, info_two inf8⟩
theorem ok9 : TI.ok Tryd.prog 9 ⟨.str, 1, str []⟩ := ⟨Tryd.underlying9, info_two inf9⟩
theorem ok10 : TI.ok Tryd.prog 10 ⟨.str, 1, str []⟩ := ⟨Tryd.underlying10, info_two inf10⟩
theorem ok11 : TI.ok Tryd.prog 11 ⟨.str, 1, str []⟩ := ⟨Tryd.underlying11, info_two inf11⟩
theorem ok12 : TI.ok Tryd.prog 12 ⟨.int .u64, 1, .int .u64 0⟩ := ⟨Tryd.underlying12, info_two inf12⟩
theorem ok13 : TI.ok Tryd.prog 13 ⟨.strct [(0, 1, false), (1, 1, false)], 2, .agg #[str [], .int .u64 0]⟩ := ⟨⟨_, Tryd.underlying13, by kernel_rfl, by
    intro f hf
    simp only [List.mem_cons, List.not_mem_nil, or_false] at hf
    (first | (rcases hf with rfl | rfl) | (obtain rfl := hf)) <;> exact ⟨by kernel_rfl, by kernel_rfl⟩⟩, info_two inf13⟩
theorem ok14 : TI.ok Tryd.prog 14 ⟨.strct [(0, 1, false), (1, 1, false)], 2, .agg #[str [], .int .u64 0]⟩ := ⟨⟨_, Tryd.underlying14, by kernel_rfl, by
    intro f hf
    simp only [List.mem_cons, List.not_mem_nil, or_false] at hf
    (first | (rcases hf with rfl | rfl) | (obtain rfl := hf)) <;> exact ⟨by kernel_rfl, by kernel_rfl⟩⟩, info_two inf14⟩
theorem ok15 : TI.ok Tryd.prog 15 ⟨.flat, 1, .pointer none⟩ := ⟨⟨_, Tryd.underlying15, rfl⟩, info_two inf15⟩
theorem ok16 : TI.ok Tryd.prog 16 ⟨.flat, 1, .pointer none⟩ := ⟨⟨_, Tryd.underlying16, rfl⟩, info_two inf16⟩
theorem ok17 : TI.ok Tryd.prog 17 ⟨.flat, 1, .pointer none⟩ := ⟨⟨_, Tryd.underlying17, rfl⟩, info_two inf17⟩
theorem ok18 : TI.ok Tryd.prog 18 ⟨.strct [(0, 1, false)], 1, .agg #[.pointer none]⟩ := ⟨⟨_, Tryd.underlying18, by kernel_rfl, by
    intro f hf
    simp only [List.mem_cons, List.not_mem_nil, or_false] at hf
    (first | (rcases hf with rfl) | (obtain rfl := hf)) <;> exact ⟨by kernel_rfl, by kernel_rfl⟩⟩, info_two inf18⟩
theorem ok19 : TI.ok Tryd.prog 19 ⟨.strct [(0, 1, false)], 1, .agg #[.pointer none]⟩ := ⟨⟨_, Tryd.underlying19, by kernel_rfl, by
    intro f hf
    simp only [List.mem_cons, List.not_mem_nil, or_false] at hf
    (first | (rcases hf with rfl) | (obtain rfl := hf)) <;> exact ⟨by kernel_rfl, by kernel_rfl⟩⟩, info_two inf19⟩
theorem ok20 : TI.ok Tryd.prog 20 ⟨.iface, 1, .nilIface⟩ := ⟨⟨_, Tryd.underlying20⟩, info_two inf20⟩
theorem ok21 : TI.ok Tryd.prog 21 ⟨.int .i32, 1, .int .i32 0⟩ := ⟨Tryd.underlying21, info_two inf21⟩
theorem ok22 : TI.ok Tryd.prog 22 ⟨.slc 9 1 16 (str []), 1, .slice none 0 0⟩ := ⟨⟨Tryd.underlying22, info_of inf9⟩, info_two inf22⟩
theorem ok23 : TI.ok Tryd.prog 23 ⟨.strct [(0, 1, false)], 1, .agg #[.slice none 0 0]⟩ := ⟨⟨_, Tryd.underlying23, by kernel_rfl, by
    intro f hf
    simp only [List.mem_cons, List.not_mem_nil, or_false] at hf
    (first | (rcases hf with rfl) | (obtain rfl := hf)) <;> exact ⟨by kernel_rfl, by kernel_rfl⟩⟩, info_two inf23⟩
theorem ok24 : TI.ok Tryd.prog 24 ⟨.strct [(0, 1, false)], 1, .agg #[.slice none 0 0]⟩ := ⟨⟨_, Tryd.underlying24, by kernel_rfl, by
    intro f hf
    simp only [List.mem_cons, List.not_mem_nil, or_false] at hf
    (first | (rcases hf with rfl) | (obtain rfl := hf)) <;> exact ⟨by kernel_rfl, by kernel_rfl⟩⟩, info_two inf24⟩
theorem ok26 : TI.ok Tryd.prog 26 ⟨.func, 1, .nilFunc⟩ := ⟨⟨_, _, _, Tryd.underlying26⟩, info_two inf26⟩
theorem ok27 : TI.ok Tryd.prog 27 ⟨.func, 1, .nilFunc⟩ := ⟨⟨_, _, _, Tryd.underlying27⟩, info_two inf27⟩
theorem ok28 : TI.ok Tryd.prog 28 ⟨.func, 1, .nilFunc⟩ := ⟨⟨_, _, _, Tryd.underlying28⟩, info_two inf28⟩
theorem ok29 : TI.ok Tryd.prog 29 ⟨.func, 1, .nilFunc⟩ := ⟨⟨_, _, _, Tryd.underlying29⟩, info_two inf29⟩
theorem ok31 : TI.ok Tryd.prog 31 ⟨.func, 1, .nilFunc⟩ := ⟨⟨_, _, _, Tryd.underlying31⟩, info_two inf31⟩
theorem ok33 : TI.ok Tryd.prog 33 ⟨.func, 1, .nilFunc⟩ := ⟨⟨_, _, _, Tryd.underlying33⟩, info_two inf33⟩
theorem ok34 : TI.ok Tryd.prog 34 ⟨.func, 1, .nilFunc⟩ := ⟨⟨_, _, _, Tryd.underlying34⟩, info_two inf34⟩
theorem ok35 : TI.ok Tryd.prog 35 ⟨.func, 1, .nilFunc⟩ := ⟨⟨_, _, _, Tryd.underlying35⟩, info_two inf35⟩
theorem ok36 : TI.ok Tryd.prog 36 ⟨.func, 1, .nilFunc⟩ := ⟨⟨_, _, _, Tryd.underlying36⟩, info_two inf36⟩
theorem ok37 : TI.ok Tryd.prog 37 ⟨.func, 1, .nilFunc⟩ := ⟨⟨_, _, _, Tryd.underlying37⟩, info_two inf37⟩
theorem ok38 : TI.ok Tryd.prog 38 ⟨.func, 1, .nilFunc⟩ := ⟨⟨_, _, _, Tryd.underlying38⟩, info_two inf38⟩
theorem ok40 : TI.ok Tryd.prog 40 ⟨.func, 1, .nilFunc⟩ := ⟨⟨_, _, _, Tryd.underlying40⟩, info_two inf40⟩
theorem ok41 : TI.ok Tryd.prog 41 ⟨.func, 1, .nilFunc⟩ := ⟨⟨_, _, _, Tryd.underlying41⟩, info_two inf41⟩
theorem ok42 : TI.ok Tryd.prog 42 ⟨.func, 1, .nilFunc⟩ := ⟨⟨_, _, _, Tryd.underlying42⟩, info_two inf42⟩
theorem ok43 : TI.ok Tryd.prog 43 ⟨.func, 1, .nilFunc⟩ := ⟨⟨_, _, _, Tryd.underlying43⟩, info_two inf43⟩
theorem ok44 : TI.ok Tryd.prog 44 ⟨.func, 1, .nilFunc⟩ := ⟨⟨_, _, _, Tryd.underlying44⟩, info_two inf44⟩
theorem ok45 : TI.ok Tryd.prog 45 ⟨.func, 1, .nilFunc⟩ := ⟨⟨_, _, _, Tryd.underlying45⟩, info_two inf45⟩
theorem ok46 : TI.ok Tryd.prog 46 ⟨.func, 1, .nilFunc⟩ := ⟨⟨_, _, _, Tryd.underlying46⟩, info_two inf46⟩
theorem ok47 : TI.ok Tryd.prog 47 ⟨.func, 1, .nilFunc⟩ := ⟨⟨_, _, _, Tryd.underlying47⟩, info_two inf47⟩
theorem ok48 : TI.ok Tryd.prog 48 ⟨.func, 1, .nilFunc⟩ := ⟨⟨_, _, _, Tryd.underlying48⟩, info_two inf48⟩
theorem ok49 : TI.ok Tryd.prog 49 ⟨.func, 1, .nilFunc⟩ := ⟨⟨_, _, _, Tryd.underlying49⟩, info_two inf49⟩
theorem ok50 : TI.ok Tryd.prog 50 ⟨.slc 2 1 8 (.int .i64 0), 1, .slice none 0 0⟩ := ⟨⟨Tryd.underlying50, info_of inf2⟩, info_two inf50⟩
theorem ok51 : TI.ok Tryd.prog 51 ⟨.func, 1, .nilFunc⟩ := ⟨⟨_, _, _, Tryd.underlying51⟩, info_two inf51⟩
theorem ok52 : TI.ok Tryd.prog 52 ⟨.func, 1, .nilFunc⟩ := ⟨⟨_, _, _, Tryd.underlying52⟩, info_two inf52⟩
theorem ok53 : TI.ok Tryd.prog 53 ⟨.func, 1, .nilFunc⟩ := ⟨⟨_, _, _, Tryd.underlying53⟩, info_two inf53⟩
theorem ok54 : TI.ok Tryd.prog 54 ⟨.func, 1, .nilFunc⟩ := ⟨⟨_, _, _, Tryd.underlying54⟩, info_two inf54⟩
theorem ok55 : TI.ok Tryd.prog 55 ⟨.func, 1, .nilFunc⟩ := ⟨⟨_, _, _, Tryd.underlying55⟩, info_two inf55⟩
theorem ok56 : TI.ok Tryd.prog 56 ⟨.slc 5 1 1 (.int .u8 0), 1, .slice none 0 0⟩ := ⟨⟨Tryd.underlying56, info_of inf5⟩, info_two inf56⟩
theorem ok57 : TI.ok Tryd.prog 57 ⟨.func, 1, .nilFunc⟩ := ⟨⟨_, _, _, Tryd.underlying57⟩, info_two inf57⟩
theorem ok58 : TI.ok Tryd.prog 58 ⟨.func, 1, .nilFunc⟩ := ⟨⟨_, _, _, Tryd.underlying58⟩, info_two inf58⟩
theorem ok59 : TI.ok Tryd.prog 59 ⟨.func, 1, .nilFunc⟩ := ⟨⟨_, _, _, Tryd.underlying59⟩, info_two inf59⟩
theorem ok63 : TI.ok Tryd.prog 63 ⟨.func, 1, .nilFunc⟩ := ⟨⟨_, _, _, Tryd.underlying63⟩, info_two inf63⟩
theorem ok64 : TI.ok Tryd.prog 64 ⟨.func, 1, .nilFunc⟩ := ⟨⟨_, _, _, Tryd.underlying64⟩, info_two inf64⟩
theorem ok65 : TI.ok Tryd.prog 65 ⟨.flat, 1, .pointer none⟩ := ⟨⟨_, Tryd.underlying65, rfl⟩, info_two inf65⟩
theorem ok66 : TI.ok Tryd.prog 66 ⟨.func, 1, .nilFunc⟩ := ⟨⟨_, _, _, Tryd.underlying66⟩, info_two inf66⟩
theorem ok67 : TI.ok Tryd.prog 67 ⟨.func, 1, .nilFunc⟩ := ⟨⟨_, _, _, Tryd.underlying67⟩, info_two inf67⟩
theorem ok69 : TI.ok Tryd.prog 69 ⟨.func, 1, .nilFunc⟩ := ⟨⟨_, _, _, Tryd.underlying69⟩, info_two inf69⟩
theorem ok70 : TI.ok Tryd.prog 70 ⟨.func, 1, .nilFunc⟩ := ⟨⟨_, _, _, Tryd.underlying70⟩, info_two inf70⟩
theorem ok71 : TI.ok Tryd.prog 71 ⟨.func, 1, .nilFunc⟩ := ⟨⟨_, _, _, Tryd.underlying71⟩, info_two inf71⟩
theorem ok72 : TI.ok Tryd.prog 72 ⟨.func, 1, .nilFunc⟩ := ⟨⟨_, _, _, Tryd.underlying72⟩, info_two inf72⟩
theorem ok73 : TI.ok Tryd.prog 73 ⟨.func, 1, .nilFunc⟩ := ⟨⟨_, _, _, Tryd.underlying73⟩, info_two inf73⟩
theorem ok74 : TI.ok Tryd.prog 74 ⟨.int .u64, 1, .int .u64 0⟩ := ⟨Tryd.underlying74, info_two inf74⟩
theorem ok75 : TI.ok Tryd.prog 75 ⟨.func, 1, .nilFunc⟩ := ⟨⟨_, _, _, Tryd.underlying75⟩, info_two inf75⟩
theorem ok76 : TI.ok Tryd.prog 76 ⟨.func, 1, .nilFunc⟩ := ⟨⟨_, _, _, Tryd.underlying76⟩, info_two inf76⟩
theorem ok78 : TI.ok Tryd.prog 78 ⟨.strct [(0, 1, false), (1, 1, false)], 2, .agg #[.int .u8 0, .int .u8 0]⟩ := ⟨⟨_, Tryd.underlying78, by kernel_rfl, by
    intro f hf
    simp only [List.mem_cons, List.not_mem_nil, or_false] at hf
    (first | (rcases hf with rfl | rfl) | (obtain rfl := hf)) <;> exact ⟨by kernel_rfl, by kernel_rfl⟩⟩, info_two inf78⟩
theorem ok79 : TI.ok Tryd.prog 79 ⟨.strct [(0, 1, false), (1, 1, false)], 2, .agg #[.int .u8 0, .int .u8 0]⟩ := ⟨⟨_, Tryd.underlying79, by kernel_rfl, by
    intro f hf
    simp only [List.mem_cons, List.not_mem_nil, or_false] at hf
    (first | (rcases hf with rfl | rfl) | (obtain rfl := hf)) <;> exact ⟨by kernel_rfl, by kernel_rfl⟩⟩, info_two inf79⟩
theorem ok80 : TI.ok Tryd.prog 80 ⟨.arr 16 2 true, 32, .agg #[.int .u8 0, .int .u8 0, .int .u8 0, .int .u8 0, .int .u8 0, .int .u8 0, .int .u8 0, .int .u8 0, .int .u8 0, .int .u8 0, .int .u8 0, .int .u8 0, .int .u8 0, .int .u8 0, .int .u8 0, .int .u8 0, .int .u8 0, .int .u8 0, .int .u8 0, .int .u8 0, .int .u8 0, .int .u8 0, .int .u8 0, .int .u8 0, .int .u8 0, .int .u8 0, .int .u8 0, .int .u8 0, .int .u8 0, .int .u8 0, .int .u8 0, .int .u8 0]⟩ := ⟨⟨_, Tryd.underlying80, (let ⟨I, a, b, _⟩ := info_of inf79; ⟨I, a, b⟩), by kernel_rfl, by kernel_rfl⟩, info_two inf80⟩
theorem ok81 : TI.ok Tryd.prog 81 ⟨.int .u32, 1, .int .u32 0⟩ := ⟨Tryd.underlying81, info_two inf81⟩
theorem ok83 : TI.ok Tryd.prog 83 ⟨.func, 1, .nilFunc⟩ := ⟨⟨_, _, _, Tryd.underlying83⟩, info_two inf83⟩
theorem ok84 : TI.ok Tryd.prog 84 ⟨.func, 1, .nilFunc⟩ := ⟨⟨_, _, _, Tryd.underlying84⟩, info_two inf84⟩
theorem ok85 : TI.ok Tryd.prog 85 ⟨.func, 1, .nilFunc⟩ := ⟨⟨_, _, _, Tryd.underlying85⟩, info_two inf85⟩
theorem ok86 : TI.ok Tryd.prog 86 ⟨.strct [(0, 1, false), (1, 1, false), (2, 1, false), (3, 1, false)], 4, .agg #[.pointer none, .pointer none, .pointer none, str []]⟩ := ⟨⟨_, Tryd.underlying86, by kernel_rfl, by
    intro f hf
    simp only [List.mem_cons, List.not_mem_nil, or_false] at hf
    (first | (rcases hf with rfl | rfl | rfl | rfl) | (obtain rfl := hf)) <;> exact ⟨by kernel_rfl, by kernel_rfl⟩⟩, info_two inf86⟩
theorem ok87 : TI.ok Tryd.prog 87 ⟨.strct [(0, 1, false), (1, 1, false), (2, 1, false), (3, 1, false)], 4, .agg #[.pointer none, .pointer none, .pointer none, str []]⟩ := ⟨⟨_, Tryd.underlying87, by kernel_rfl, by
    intro f hf
    simp only [List.mem_cons, List.not_mem_nil, or_false] at hf
    (first | (rcases hf with rfl | rfl | rfl | rfl) | (obtain rfl := hf)) <;> exact ⟨by kernel_rfl, by kernel_rfl⟩⟩, info_two inf87⟩
theorem ok88 : TI.ok Tryd.prog 88 ⟨.arr 0 1 false, 0, .agg #[]⟩ := ⟨⟨_, Tryd.underlying88, (let ⟨I, a, b, _⟩ := info_of inf16; ⟨I, a, b⟩), by kernel_rfl, by kernel_rfl⟩, info_two inf88⟩
theorem ok89 : TI.ok Tryd.prog 89 ⟨.strct [(0, 0, true)], 0, .agg #[]⟩ := ⟨⟨_, Tryd.underlying89, by kernel_rfl, by
    intro f hf
    simp only [List.mem_cons, List.not_mem_nil, or_false] at hf
    (first | (rcases hf with rfl) | (obtain rfl := hf)) <;> exact ⟨by kernel_rfl, by kernel_rfl⟩⟩, info_two inf89⟩
theorem ok90 : TI.ok Tryd.prog 90 ⟨.strct [(0, 0, true)], 0, .agg #[]⟩ := ⟨⟨_, Tryd.underlying90, by kernel_rfl, by
    intro f hf
    simp only [List.mem_cons, List.not_mem_nil, or_false] at hf
    (first | (rcases hf with rfl) | (obtain rfl := hf)) <;> exact ⟨by kernel_rfl, by kernel_rfl⟩⟩, info_two inf90⟩
theorem ok91 : TI.ok Tryd.prog 91 ⟨.func, 1, .nilFunc⟩ := ⟨⟨_, _, _, Tryd.underlying91⟩, info_two inf91⟩
theorem ok92 : TI.ok Tryd.prog 92 ⟨.int .u8, 1, .int .u8 0⟩ := ⟨Tryd.underlying92, info_two inf92⟩
theorem ok93 : TI.ok Tryd.prog 93 ⟨.int .u8, 1, .int .u8 0⟩ := ⟨Tryd.underlying93, info_two inf93⟩
theorem ok94 : TI.ok Tryd.prog 94 ⟨.func, 1, .nilFunc⟩ := ⟨⟨_, _, _, Tryd.underlying94⟩, info_two inf94⟩
theorem ok95 : TI.ok Tryd.prog 95 ⟨.flat, 1, .pointer none⟩ := ⟨⟨_, Tryd.underlying95, rfl⟩, info_two inf95⟩
theorem ok96 : TI.ok Tryd.prog 96 ⟨.int .i32, 1, .int .i32 0⟩ := ⟨Tryd.underlying96, info_two inf96⟩
theorem ok97 : TI.ok Tryd.prog 97 ⟨.int .i32, 1, .int .i32 0⟩ := ⟨Tryd.underlying97, info_two inf97⟩
theorem ok98 : TI.ok Tryd.prog 98 ⟨.strct [(0, 1, false), (1, 1, false), (2, 1, false), (3, 1, false), (4, 1, false), (5, 1, false), (6, 1, false), (7, 1, false), (8, 1, false), (9, 1, false), (10, 1, false)], 11, .agg #[.int .u64 0, .int .u64 0, .int .u32 0, .int .u8 0, .int .u8 0, .int .u8 0, .int .u8 0, .nilFunc, .pointer none, .int .i32 0, .int .i32 0]⟩ := ⟨⟨_, Tryd.underlying98, by kernel_rfl, by
    intro f hf
    simp only [List.mem_cons, List.not_mem_nil, or_false] at hf
    (first | (rcases hf with rfl | rfl | rfl | rfl | rfl | rfl | rfl | rfl | rfl | rfl | rfl) | (obtain rfl := hf)) <;> exact ⟨by kernel_rfl, by kernel_rfl⟩⟩, info_two inf98⟩
theorem ok99 : TI.ok Tryd.prog 99 ⟨.strct [(0, 1, false), (1, 1, false), (2, 1, false), (3, 1, false), (4, 1, false), (5, 1, false), (6, 1, false), (7, 1, false), (8, 1, false), (9, 1, false), (10, 1, false)], 11, .agg #[.int .u64 0, .int .u64 0, .int .u32 0, .int .u8 0, .int .u8 0, .int .u8 0, .int .u8 0, .nilFunc, .pointer none, .int .i32 0, .int .i32 0]⟩ := ⟨⟨_, Tryd.underlying99, by kernel_rfl, by
    intro f hf
    simp only [List.mem_cons, List.not_mem_nil, or_false] at hf
    (first | (rcases hf with rfl | rfl | rfl | rfl | rfl | rfl | rfl | rfl | rfl | rfl | rfl) | (obtain rfl := hf)) <;> exact ⟨by kernel_rfl, by kernel_rfl⟩⟩, info_two inf99⟩
theorem ok100 : TI.ok Tryd.prog 100 ⟨.func, 1, .nilFunc⟩ := ⟨⟨_, _, _, Tryd.underlying100⟩, info_two inf100⟩
set_option maxRecDepth 100000 in
theorem tabP0_ok : TabOk Tryd.prog tabP0 := by
  intro t i h
  unfold tabP0 at h
  split at h
  · injection h with h; subst h; exact ok1
  · injection h with h; subst h; exact ok2
  · injection h with h; subst h; exact ok3
  · injection h with h; subst h; exact ok4
  · injection h with h; subst h; exact ok5
  · injection h with h; subst h; exact ok6
  · injection h with h; subst h; exact ok7
  · injection h with h; subst h; exact ok8
  · injection h with h; subst h; exact ok9
  · injection h with h; subst h; exact ok10
  · injection h with h; subst h; exact ok11
  · injection h with h; subst h; exact ok12
  · injection h with h; subst h; exact ok13
  · injection h with h; subst h; exact ok14
  · injection h with h; subst h; exact ok15
  · injection h with h; subst h; exact ok16
  · injection h with h; subst h; exact ok17
  · injection h with h; subst h; exact ok18
  · injection h with h; subst h; exact ok19
  · injection h with h; subst h; exact ok20
  · injection h with h; subst h; exact ok21
  · injection h with h; subst h; exact ok22
  · injection h with h; subst h; exact ok23
  · injection h with h; subst h; exact ok24
  · injection h with h; subst h; exact ok26
  · injection h with h; subst h; exact ok27
  · injection h with h; subst h; exact ok28
  · injection h with h; subst h; exact ok29
  · injection h with h; subst h; exact ok31
  · injection h with h; subst h; exact ok33
  · injection h with h; subst h; exact ok34
  · injection h with h; subst h; exact ok35
  · injection h with h; subst h; exact ok36
  · injection h with h; subst h; exact ok37
  · injection h with h; subst h; exact ok38
  · injection h with h; subst h; exact ok40
  · injection h with h; subst h; exact ok41
  · injection h with h; subst h; exact ok42
  · injection h with h; subst h; exact ok43
  · injection h with h; subst h; exact ok44
  · injection h with h; subst h; exact ok45
  · injection h with h; subst h; exact ok46
  · injection h with h; subst h; exact ok47
  · injection h with h; subst h; exact ok48
  · injection h with h; subst h; exact ok49
  · injection h with h; subst h; exact ok50
  · injection h with h; subst h; exact ok51
  · injection h with h; subst h; exact ok52
  · injection h with h; subst h; exact ok53
  · injection h with h; subst h; exact ok54
  · injection h with h; subst h; exact ok55
  · injection h with h; subst h; exact ok56
  · injection h with h; subst h; exact ok57
  · injection h with h; subst h; exact ok58
  · injection h with h; subst h; exact ok59
  · injection h with h; subst h; exact ok63
  · injection h with h; subst h; exact ok64
  · injection h with h; subst h; exact ok65
  · injection h with h; subst h; exact ok66
  · injection h with h; subst h; exact ok67
  · cases h
set_option maxRecDepth 100000 in
theorem tabP1_ok : TabOk Tryd.prog tabP1 := by
  intro t i h
  unfold tabP1 at h
  split at h
  · injection h with h; subst h; exact ok69
  · injection h with h; subst h; exact ok70
  · injection h with h; subst h; exact ok71
  · injection h with h; subst h; exact ok72
  · injection h with h; subst h; exact ok73
  · injection h with h; subst h; exact ok74
  · injection h with h; subst h; exact ok75
  · injection h with h; subst h; exact ok76
  · injection h with h; subst h; exact ok78
  · injection h with h; subst h; exact ok79
  · injection h with h; subst h; exact ok80
  · injection h with h; subst h; exact ok81
  · injection h with h; subst h; exact ok83
  · injection h with h; subst h; exact ok84
  · injection h with h; subst h; exact ok85
  · injection h with h; subst h; exact ok86
  · injection h with h; subst h; exact ok87
  · injection h with h; subst h; exact ok88
  · injection h with h; subst h; exact ok89
  · injection h with h; subst h; exact ok90
  · injection h with h; subst h; exact ok91
  · injection h with h; subst h; exact ok92
  · injection h with h; subst h; exact ok93
  · injection h with h; subst h; exact ok94
  · injection h with h; subst h; exact ok95
  · injection h with h; subst h; exact ok96
  · injection h with h; subst h; exact ok97
  · injection h with h; subst h; exact ok98
  · injection h with h; subst h; exact ok99
  · injection h with h; subst h; exact ok100
  · cases h
theorem tab_ok : TabOk Tryd.prog tab := by
  intro t i h
  unfold tab at h
  split at h
  · exact tabP0_ok t i h
  exact tabP1_ok t i h
end Go.Proofs.YticejlplbibegaaDoor
