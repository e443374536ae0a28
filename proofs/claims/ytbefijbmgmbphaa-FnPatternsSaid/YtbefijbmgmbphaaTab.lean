/- The types of the translation, as our calculus tells them. -/
import Derived.Test.YtbefijbmgmbphaaE5
import Derived.Test.YtbefijbmgmbphaaProg
import Derived.KernelRfl
namespace Go.Proofs.Ytbefijbmgmbphaa
open Go
def tabP0 : Tab := fun t => match t with
  | 1 => some ⟨.func, 1, .nilFunc⟩
  | 2 => some ⟨.int .i64, 1, .int .i64 0⟩
  | 3 => some ⟨.int .i64, 1, .int .i64 0⟩
  | 4 => some ⟨.bool, 1, .bool false⟩
  | 5 => some ⟨.int .u8, 1, .int .u8 0⟩
  | 6 => some ⟨.int .u8, 1, .int .u8 0⟩
  | 7 => some ⟨.strct [(0, 1, false), (1, 1, false), (2, 1, false), (3, 1, false)], 4, .agg #[.int .i64 0, .int .i64 0, .bool false, .int .u8 0]⟩
  | 8 => some ⟨.strct [(0, 1, false), (1, 1, false), (2, 1, false), (3, 1, false)], 4, .agg #[.int .i64 0, .int .i64 0, .bool false, .int .u8 0]⟩
  | 9 => some ⟨.str, 1, str []⟩
  | 10 => some ⟨.str, 1, str []⟩
  | 11 => some ⟨.str, 1, str []⟩
  | 12 => some ⟨.int .u64, 1, .int .u64 0⟩
  | 13 => some ⟨.strct [(0, 1, false), (1, 1, false)], 2, .agg #[str [], .int .u64 0]⟩
  | 14 => some ⟨.strct [(0, 1, false), (1, 1, false)], 2, .agg #[str [], .int .u64 0]⟩
  | 15 => some ⟨.flat, 1, .pointer none⟩
  | 16 => some ⟨.flat, 1, .pointer none⟩
  | 17 => some ⟨.flat, 1, .pointer none⟩
  | 18 => some ⟨.strct [(0, 1, false)], 1, .agg #[.pointer none]⟩
  | 19 => some ⟨.strct [(0, 1, false)], 1, .agg #[.pointer none]⟩
  | 20 => some ⟨.iface, 1, .nilIface⟩
  | 21 => some ⟨.int .i32, 1, .int .i32 0⟩
  | 22 => some ⟨.slc 5 1 1 (.int .u8 0), 1, .slice none 0 0⟩
  | 23 => some ⟨.func, 1, .nilFunc⟩
  | 24 => some ⟨.flat, 1, .pointer none⟩
  | 25 => some ⟨.func, 1, .nilFunc⟩
  | 26 => some ⟨.int .u64, 1, .int .u64 0⟩
  | 27 => some ⟨.slc 9 1 16 (str []), 1, .slice none 0 0⟩
  | 28 => some ⟨.func, 1, .nilFunc⟩
  | 30 => some ⟨.func, 1, .nilFunc⟩
  | 31 => some ⟨.func, 1, .nilFunc⟩
  | 32 => some ⟨.slc 2 1 8 (.int .i64 0), 1, .slice none 0 0⟩
  | 34 => some ⟨.func, 1, .nilFunc⟩
  | 35 => some ⟨.func, 1, .nilFunc⟩
  | 37 => some ⟨.func, 1, .nilFunc⟩
  | 38 => some ⟨.func, 1, .nilFunc⟩
  | 40 => some ⟨.func, 1, .nilFunc⟩
  | 42 => some ⟨.func, 1, .nilFunc⟩
  | 43 => some ⟨.func, 1, .nilFunc⟩
  | 44 => some ⟨.func, 1, .nilFunc⟩
  | 45 => some ⟨.func, 1, .nilFunc⟩
  | 46 => some ⟨.strct [(0, 1, false)], 1, .agg #[.slice none 0 0]⟩
  | 47 => some ⟨.strct [(0, 1, false)], 1, .agg #[.slice none 0 0]⟩
  | 48 => some ⟨.func, 1, .nilFunc⟩
  | 49 => some ⟨.func, 1, .nilFunc⟩
  | 51 => some ⟨.func, 1, .nilFunc⟩
  | 52 => some ⟨.func, 1, .nilFunc⟩
  | 53 => some ⟨.func, 1, .nilFunc⟩
  | 55 => some ⟨.func, 1, .nilFunc⟩
  | 56 => some ⟨.slc 3 1 8 (.int .i64 0), 1, .slice none 0 0⟩
  | 57 => some ⟨.func, 1, .nilFunc⟩
  | 58 => some ⟨.func, 1, .nilFunc⟩
  | 59 => some ⟨.func, 1, .nilFunc⟩
  | 60 => some ⟨.func, 1, .nilFunc⟩
  | 62 => some ⟨.func, 1, .nilFunc⟩
  | 63 => some ⟨.func, 1, .nilFunc⟩
  | 64 => some ⟨.func, 1, .nilFunc⟩
  | 66 => some ⟨.func, 1, .nilFunc⟩
  | 67 => some ⟨.func, 1, .nilFunc⟩
  | 68 => some ⟨.func, 1, .nilFunc⟩
  | 69 => some ⟨.slc 32 1 24 (.slice none 0 0), 1, .slice none 0 0⟩
  | _ => none
def tabP1 : Tab := fun t => match t with
  | 71 => some ⟨.func, 1, .nilFunc⟩
  | 72 => some ⟨.func, 1, .nilFunc⟩
  | 73 => some ⟨.func, 1, .nilFunc⟩
  | 74 => some ⟨.func, 1, .nilFunc⟩
  | 75 => some ⟨.strct [(0, 1, false), (1, 1, false), (2, 1, false)], 3, .agg #[.slice none 0 0, .int .i64 0, .int .u64 0]⟩
  | 76 => some ⟨.strct [(0, 1, false), (1, 1, false), (2, 1, false)], 3, .agg #[.slice none 0 0, .int .i64 0, .int .u64 0]⟩
  | 77 => some ⟨.int .u64, 1, .int .u64 0⟩
  | 78 => some ⟨.func, 1, .nilFunc⟩
  | 79 => some ⟨.func, 1, .nilFunc⟩
  | 80 => some ⟨.func, 1, .nilFunc⟩
  | 81 => some ⟨.func, 1, .nilFunc⟩
  | 83 => some ⟨.func, 1, .nilFunc⟩
  | 84 => some ⟨.func, 1, .nilFunc⟩
  | 85 => some ⟨.func, 1, .nilFunc⟩
  | 86 => some ⟨.func, 1, .nilFunc⟩
  | 87 => some ⟨.func, 1, .nilFunc⟩
  | 88 => some ⟨.func, 1, .nilFunc⟩
  | 89 => some ⟨.func, 1, .nilFunc⟩
  | 91 => some ⟨.func, 1, .nilFunc⟩
  | 92 => some ⟨.arr 3 1 false, 3, .agg #[str [], str [], str []]⟩
  | 93 => some ⟨.func, 1, .nilFunc⟩
  | 94 => some ⟨.func, 1, .nilFunc⟩
  | 95 => some ⟨.func, 1, .nilFunc⟩
  | 96 => some ⟨.func, 1, .nilFunc⟩
  | 97 => some ⟨.func, 1, .nilFunc⟩
  | 98 => some ⟨.func, 1, .nilFunc⟩
  | 99 => some ⟨.func, 1, .nilFunc⟩
  | 100 => some ⟨.func, 1, .nilFunc⟩
  | 101 => some ⟨.func, 1, .nilFunc⟩
  | 102 => some ⟨.flat, 1, .pointer none⟩
  | 103 => some ⟨.func, 1, .nilFunc⟩
  | 104 => some ⟨.func, 1, .nilFunc⟩
  | 105 => some ⟨.func, 1, .nilFunc⟩
  | 106 => some ⟨.func, 1, .nilFunc⟩
  | 107 => some ⟨.func, 1, .nilFunc⟩
  | 108 => some ⟨.func, 1, .nilFunc⟩
  | 109 => some ⟨.func, 1, .nilFunc⟩
  | 110 => some ⟨.func, 1, .nilFunc⟩
  | 111 => some ⟨.slc 4 1 1 (.bool false), 1, .slice none 0 0⟩
  | 112 => some ⟨.func, 1, .nilFunc⟩
  | 113 => some ⟨.func, 1, .nilFunc⟩
  | 114 => some ⟨.func, 1, .nilFunc⟩
  | 115 => some ⟨.func, 1, .nilFunc⟩
  | 116 => some ⟨.func, 1, .nilFunc⟩
  | 117 => some ⟨.func, 1, .nilFunc⟩
  | 118 => some ⟨.func, 1, .nilFunc⟩
  | 119 => some ⟨.func, 1, .nilFunc⟩
  | 120 => some ⟨.func, 1, .nilFunc⟩
  | 121 => some ⟨.func, 1, .nilFunc⟩
  | 122 => some ⟨.func, 1, .nilFunc⟩
  | 123 => some ⟨.func, 1, .nilFunc⟩
  | 125 => some ⟨.func, 1, .nilFunc⟩
  | 126 => some ⟨.func, 1, .nilFunc⟩
  | 127 => some ⟨.func, 1, .nilFunc⟩
  | 128 => some ⟨.func, 1, .nilFunc⟩
  | 129 => some ⟨.func, 1, .nilFunc⟩
  | 130 => some ⟨.func, 1, .nilFunc⟩
  | 131 => some ⟨.func, 1, .nilFunc⟩
  | 132 => some ⟨.func, 1, .nilFunc⟩
  | 133 => some ⟨.func, 1, .nilFunc⟩
  | _ => none
def tabP2 : Tab := fun t => match t with
  | 134 => some ⟨.func, 1, .nilFunc⟩
  | 135 => some ⟨.func, 1, .nilFunc⟩
  | 136 => some ⟨.func, 1, .nilFunc⟩
  | 137 => some ⟨.func, 1, .nilFunc⟩
  | 138 => some ⟨.func, 1, .nilFunc⟩
  | 140 => some ⟨.func, 1, .nilFunc⟩
  | 141 => some ⟨.flat, 1, .pointer none⟩
  | 142 => some ⟨.strct [(0, 1, false), (1, 1, false)], 2, .agg #[.pointer none, .slice none 0 0]⟩
  | 143 => some ⟨.strct [(0, 1, false), (1, 1, false)], 2, .agg #[.pointer none, .slice none 0 0]⟩
  | 144 => some ⟨.func, 1, .nilFunc⟩
  | 145 => some ⟨.iface, 1, .nilIface⟩
  | 146 => some ⟨.iface, 1, .nilIface⟩
  | 148 => some ⟨.func, 1, .nilFunc⟩
  | 149 => some ⟨.func, 1, .nilFunc⟩
  | 150 => some ⟨.func, 1, .nilFunc⟩
  | 151 => some ⟨.func, 1, .nilFunc⟩
  | 152 => some ⟨.func, 1, .nilFunc⟩
  | 153 => some ⟨.func, 1, .nilFunc⟩
  | 154 => some ⟨.func, 1, .nilFunc⟩
  | 155 => some ⟨.func, 1, .nilFunc⟩
  | 156 => some ⟨.strct [(0, 1, false), (1, 1, false), (2, 1, false)], 3, .agg #[.slice none 0 0, .int .i64 0, .int .u64 0]⟩
  | 157 => some ⟨.strct [(0, 1, false), (1, 1, false), (2, 1, false)], 3, .agg #[.slice none 0 0, .int .i64 0, .int .u64 0]⟩
  | 158 => some ⟨.func, 1, .nilFunc⟩
  | 159 => some ⟨.func, 1, .nilFunc⟩
  | 160 => some ⟨.func, 1, .nilFunc⟩
  | 161 => some ⟨.func, 1, .nilFunc⟩
  | 162 => some ⟨.func, 1, .nilFunc⟩
  | 163 => some ⟨.func, 1, .nilFunc⟩
  | 164 => some ⟨.func, 1, .nilFunc⟩
  | 165 => some ⟨.func, 1, .nilFunc⟩
  | 166 => some ⟨.func, 1, .nilFunc⟩
  | 167 => some ⟨.func, 1, .nilFunc⟩
  | 168 => some ⟨.func, 1, .nilFunc⟩
  | 169 => some ⟨.func, 1, .nilFunc⟩
  | 170 => some ⟨.func, 1, .nilFunc⟩
  | 171 => some ⟨.int .u32, 1, .int .u32 0⟩
  | 173 => some ⟨.func, 1, .nilFunc⟩
  | 175 => some ⟨.func, 1, .nilFunc⟩
  | 176 => some ⟨.flat, 1, .pointer none⟩
  | 177 => some ⟨.func, 1, .nilFunc⟩
  | 178 => some ⟨.func, 1, .nilFunc⟩
  | 179 => some ⟨.func, 1, .nilFunc⟩
  | 180 => some ⟨.int .i64, 1, .int .i64 0⟩
  | 182 => some ⟨.func, 1, .nilFunc⟩
  | 183 => some ⟨.func, 1, .nilFunc⟩
  | 184 => some ⟨.func, 1, .nilFunc⟩
  | 185 => some ⟨.func, 1, .nilFunc⟩
  | 187 => some ⟨.func, 1, .nilFunc⟩
  | 188 => some ⟨.func, 1, .nilFunc⟩
  | 189 => some ⟨.func, 1, .nilFunc⟩
  | 190 => some ⟨.func, 1, .nilFunc⟩
  | 191 => some ⟨.func, 1, .nilFunc⟩
  | 192 => some ⟨.func, 1, .nilFunc⟩
  | 194 => some ⟨.func, 1, .nilFunc⟩
  | 195 => some ⟨.func, 1, .nilFunc⟩
  | 196 => some ⟨.func, 1, .nilFunc⟩
  | 197 => some ⟨.int .u64, 1, .int .u64 0⟩
  | 198 => some ⟨.func, 1, .nilFunc⟩
  | 199 => some ⟨.func, 1, .nilFunc⟩
  | 200 => some ⟨.func, 1, .nilFunc⟩
  | _ => none
def tabP3 : Tab := fun t => match t with
  | 201 => some ⟨.flat, 1, .pointer none⟩
  | 202 => some ⟨.func, 1, .nilFunc⟩
  | 203 => some ⟨.func, 1, .nilFunc⟩
  | 204 => some ⟨.func, 1, .nilFunc⟩
  | 205 => some ⟨.func, 1, .nilFunc⟩
  | 206 => some ⟨.func, 1, .nilFunc⟩
  | 207 => some ⟨.func, 1, .nilFunc⟩
  | 208 => some ⟨.func, 1, .nilFunc⟩
  | 209 => some ⟨.func, 1, .nilFunc⟩
  | 210 => some ⟨.func, 1, .nilFunc⟩
  | 211 => some ⟨.func, 1, .nilFunc⟩
  | 212 => some ⟨.func, 1, .nilFunc⟩
  | 213 => some ⟨.func, 1, .nilFunc⟩
  | 214 => some ⟨.func, 1, .nilFunc⟩
  | 215 => some ⟨.func, 1, .nilFunc⟩
  | 216 => some ⟨.flat, 1, .pointer none⟩
  | 218 => some ⟨.func, 1, .nilFunc⟩
  | 219 => some ⟨.func, 1, .nilFunc⟩
  | 220 => some ⟨.func, 1, .nilFunc⟩
  | 221 => some ⟨.func, 1, .nilFunc⟩
  | 222 => some ⟨.func, 1, .nilFunc⟩
  | 223 => some ⟨.func, 1, .nilFunc⟩
  | 224 => some ⟨.func, 1, .nilFunc⟩
  | 225 => some ⟨.func, 1, .nilFunc⟩
  | 226 => some ⟨.func, 1, .nilFunc⟩
  | 227 => some ⟨.strct [(0, 1, false), (1, 1, false), (2, 1, false), (3, 1, false)], 4, .agg #[.pointer none, .pointer none, .pointer none, str []]⟩
  | 228 => some ⟨.strct [(0, 1, false), (1, 1, false), (2, 1, false), (3, 1, false)], 4, .agg #[.pointer none, .pointer none, .pointer none, str []]⟩
  | 229 => some ⟨.arr 0 1 false, 0, .agg #[]⟩
  | 230 => some ⟨.strct [(0, 0, true)], 0, .agg #[]⟩
  | 231 => some ⟨.strct [(0, 0, true)], 0, .agg #[]⟩
  | 232 => some ⟨.int .u8, 1, .int .u8 0⟩
  | 233 => some ⟨.int .u8, 1, .int .u8 0⟩
  | 234 => some ⟨.func, 1, .nilFunc⟩
  | 235 => some ⟨.int .i32, 1, .int .i32 0⟩
  | 236 => some ⟨.int .i32, 1, .int .i32 0⟩
  | 237 => some ⟨.strct [(0, 1, false), (1, 1, false), (2, 1, false), (3, 1, false), (4, 1, false), (5, 1, false), (6, 1, false), (7, 1, false), (8, 1, false), (9, 1, false), (10, 1, false)], 11, .agg #[.int .u64 0, .int .u64 0, .int .u32 0, .int .u8 0, .int .u8 0, .int .u8 0, .int .u8 0, .nilFunc, .pointer none, .int .i32 0, .int .i32 0]⟩
  | 238 => some ⟨.strct [(0, 1, false), (1, 1, false), (2, 1, false), (3, 1, false), (4, 1, false), (5, 1, false), (6, 1, false), (7, 1, false), (8, 1, false), (9, 1, false), (10, 1, false)], 11, .agg #[.int .u64 0, .int .u64 0, .int .u32 0, .int .u8 0, .int .u8 0, .int .u8 0, .int .u8 0, .nilFunc, .pointer none, .int .i32 0, .int .i32 0]⟩
  | _ => none
def tab : Tab := fun t => if t < 71 then tabP0 t else if t < 134 then tabP1 t else if t < 201 then tabP2 t else tabP3 t
@[simp] theorem tab1 : tab 1 = some ⟨.func, 1, .nilFunc⟩ := rfl
@[simp] theorem tab2 : tab 2 = some ⟨.int .i64, 1, .int .i64 0⟩ := rfl
@[simp] theorem tab3 : tab 3 = some ⟨.int .i64, 1, .int .i64 0⟩ := rfl
@[simp] theorem tab4 : tab 4 = some ⟨.bool, 1, .bool false⟩ := rfl
@[simp] theorem tab5 : tab 5 = some ⟨.int .u8, 1, .int .u8 0⟩ := rfl
@[simp] theorem tab6 : tab 6 = some ⟨.int .u8, 1, .int .u8 0⟩ := rfl
@[simp] theorem tab7 : tab 7 = some ⟨.strct [(0, 1, false), (1, 1, false), (2, 1, false), (3, 1, false)], 4, .agg #[.int .i64 0, .int .i64 0, .bool false, .int .u8 0]⟩ := rfl
@[simp] theorem tab8 : tab 8 = some ⟨.strct [(0, 1, false), (1, 1, false), (2, 1, false), (3, 1, false)], 4, .agg #[.int .i64 0, .int .i64 0, .bool false, .int .u8 0]⟩ := rfl
@[simp] theorem tab9 : tab 9 = some ⟨.str, 1, str []⟩ := rfl
@[simp] theorem tab10 : tab 10 = some ⟨.str, 1, str []⟩ := rfl
@[simp] theorem tab11 : tab 11 = some ⟨.str, 1, str []⟩ := rfl
@[simp] theorem tab12 : tab 12 = some ⟨.int .u64, 1, .int .u64 0⟩ := rfl
@[simp] theorem tab13 : tab 13 = some ⟨.strct [(0, 1, false), (1, 1, false)], 2, .agg #[str [], .int .u64 0]⟩ := rfl
@[simp] theorem tab14 : tab 14 = some ⟨.strct [(0, 1, false), (1, 1, false)], 2, .agg #[str [], .int .u64 0]⟩ := rfl
@[simp] theorem tab15 : tab 15 = some ⟨.flat, 1, .pointer none⟩ := rfl
@[simp] theorem tab16 : tab 16 = some ⟨.flat, 1, .pointer none⟩ := rfl
@[simp] theorem tab17 : tab 17 = some ⟨.flat, 1, .pointer none⟩ := rfl
@[simp] theorem tab18 : tab 18 = some ⟨.strct [(0, 1, false)], 1, .agg #[.pointer none]⟩ := rfl
@[simp] theorem tab19 : tab 19 = some ⟨.strct [(0, 1, false)], 1, .agg #[.pointer none]⟩ := rfl
@[simp] theorem tab20 : tab 20 = some ⟨.iface, 1, .nilIface⟩ := rfl
@[simp] theorem tab21 : tab 21 = some ⟨.int .i32, 1, .int .i32 0⟩ := rfl
@[simp] theorem tab22 : tab 22 = some ⟨.slc 5 1 1 (.int .u8 0), 1, .slice none 0 0⟩ := rfl
@[simp] theorem tab23 : tab 23 = some ⟨.func, 1, .nilFunc⟩ := rfl
@[simp] theorem tab24 : tab 24 = some ⟨.flat, 1, .pointer none⟩ := rfl
@[simp] theorem tab25 : tab 25 = some ⟨.func, 1, .nilFunc⟩ := rfl
@[simp] theorem tab26 : tab 26 = some ⟨.int .u64, 1, .int .u64 0⟩ := rfl
@[simp] theorem tab27 : tab 27 = some ⟨.slc 9 1 16 (str []), 1, .slice none 0 0⟩ := rfl
@[simp] theorem tab28 : tab 28 = some ⟨.func, 1, .nilFunc⟩ := rfl
@[simp] theorem tab30 : tab 30 = some ⟨.func, 1, .nilFunc⟩ := rfl
@[simp] theorem tab31 : tab 31 = some ⟨.func, 1, .nilFunc⟩ := rfl
@[simp] theorem tab32 : tab 32 = some ⟨.slc 2 1 8 (.int .i64 0), 1, .slice none 0 0⟩ := rfl
@[simp] theorem tab34 : tab 34 = some ⟨.func, 1, .nilFunc⟩ := rfl
@[simp] theorem tab35 : tab 35 = some ⟨.func, 1, .nilFunc⟩ := rfl
@[simp] theorem tab37 : tab 37 = some ⟨.func, 1, .nilFunc⟩ := rfl
@[simp] theorem tab38 : tab 38 = some ⟨.func, 1, .nilFunc⟩ := rfl
@[simp] theorem tab40 : tab 40 = some ⟨.func, 1, .nilFunc⟩ := rfl
@[simp] theorem tab42 : tab 42 = some ⟨.func, 1, .nilFunc⟩ := rfl
@[simp] theorem tab43 : tab 43 = some ⟨.func, 1, .nilFunc⟩ := rfl
@[simp] theorem tab44 : tab 44 = some ⟨.func, 1, .nilFunc⟩ := rfl
@[simp] theorem tab45 : tab 45 = some ⟨.func, 1, .nilFunc⟩ := rfl
@[simp] theorem tab46 : tab 46 = some ⟨.strct [(0, 1, false)], 1, .agg #[.slice none 0 0]⟩ := rfl
@[simp] theorem tab47 : tab 47 = some ⟨.strct [(0, 1, false)], 1, .agg #[.slice none 0 0]⟩ := rfl
@[simp] theorem tab48 : tab 48 = some ⟨.func, 1, .nilFunc⟩ := rfl
@[simp] theorem tab49 : tab 49 = some ⟨.func, 1, .nilFunc⟩ := rfl
@[simp] theorem tab51 : tab 51 = some ⟨.func, 1, .nilFunc⟩ := rfl
@[simp] theorem tab52 : tab 52 = some ⟨.func, 1, .nilFunc⟩ := rfl
@[simp] theorem tab53 : tab 53 = some ⟨.func, 1, .nilFunc⟩ := rfl
@[simp] theorem tab55 : tab 55 = some ⟨.func, 1, .nilFunc⟩ := rfl
@[simp] theorem tab56 : tab 56 = some ⟨.slc 3 1 8 (.int .i64 0), 1, .slice none 0 0⟩ := rfl
@[simp] theorem tab57 : tab 57 = some ⟨.func, 1, .nilFunc⟩ := rfl
@[simp] theorem tab58 : tab 58 = some ⟨.func, 1, .nilFunc⟩ := rfl
@[simp] theorem tab59 : tab 59 = some ⟨.func, 1, .nilFunc⟩ := rfl
@[simp] theorem tab60 : tab 60 = some ⟨.func, 1, .nilFunc⟩ := rfl
@[simp] theorem tab62 : tab 62 = some ⟨.func, 1, .nilFunc⟩ := rfl
@[simp] theorem tab63 : tab 63 = some ⟨.func, 1, .nilFunc⟩ := rfl
@[simp] theorem tab64 : tab 64 = some ⟨.func, 1, .nilFunc⟩ := rfl
@[simp] theorem tab66 : tab 66 = some ⟨.func, 1, .nilFunc⟩ := rfl
@[simp] theorem tab67 : tab 67 = some ⟨.func, 1, .nilFunc⟩ := rfl
@[simp] theorem tab68 : tab 68 = some ⟨.func, 1, .nilFunc⟩ := rfl
@[simp] theorem tab69 : tab 69 = some ⟨.slc 32 1 24 (.slice none 0 0), 1, .slice none 0 0⟩ := rfl
@[simp] theorem tab71 : tab 71 = some ⟨.func, 1, .nilFunc⟩ := rfl
@[simp] theorem tab72 : tab 72 = some ⟨.func, 1, .nilFunc⟩ := rfl
@[simp] theorem tab73 : tab 73 = some ⟨.func, 1, .nilFunc⟩ := rfl
@[simp] theorem tab74 : tab 74 = some ⟨.func, 1, .nilFunc⟩ := rfl
@[simp] theorem tab75 : tab 75 = some ⟨.strct [(0, 1, false), (1, 1, false), (2, 1, false)], 3, .agg #[.slice none 0 0, .int .i64 0, .int .u64 0]⟩ := rfl
@[simp] theorem tab76 : tab 76 = some ⟨.strct [(0, 1, false), (1, 1, false), (2, 1, false)], 3, .agg #[.slice none 0 0, .int .i64 0, .int .u64 0]⟩ := rfl
@[simp] theorem tab77 : tab 77 = some ⟨.int .u64, 1, .int .u64 0⟩ := rfl
@[simp] theorem tab78 : tab 78 = some ⟨.func, 1, .nilFunc⟩ := rfl
@[simp] theorem tab79 : tab 79 = some ⟨.func, 1, .nilFunc⟩ := rfl
@[simp] theorem tab80 : tab 80 = some ⟨.func, 1, .nilFunc⟩ := rfl
@[simp] theorem tab81 : tab 81 = some ⟨.func, 1, .nilFunc⟩ := rfl
@[simp] theorem tab83 : tab 83 = some ⟨.func, 1, .nilFunc⟩ := rfl
@[simp] theorem tab84 : tab 84 = some ⟨.func, 1, .nilFunc⟩ := rfl
@[simp] theorem tab85 : tab 85 = some ⟨.func, 1, .nilFunc⟩ := rfl
@[simp] theorem tab86 : tab 86 = some ⟨.func, 1, .nilFunc⟩ := rfl
@[simp] theorem tab87 : tab 87 = some ⟨.func, 1, .nilFunc⟩ := rfl
@[simp] theorem tab88 : tab 88 = some ⟨.func, 1, .nilFunc⟩ := rfl
@[simp] theorem tab89 : tab 89 = some ⟨.func, 1, .nilFunc⟩ := rfl
@[simp] theorem tab91 : tab 91 = some ⟨.func, 1, .nilFunc⟩ := rfl
@[simp] theorem tab92 : tab 92 = some ⟨.arr 3 1 false, 3, .agg #[str [], str [], str []]⟩ := rfl
@[simp] theorem tab93 : tab 93 = some ⟨.func, 1, .nilFunc⟩ := rfl
@[simp] theorem tab94 : tab 94 = some ⟨.func, 1, .nilFunc⟩ := rfl
@[simp] theorem tab95 : tab 95 = some ⟨.func, 1, .nilFunc⟩ := rfl
@[simp] theorem tab96 : tab 96 = some ⟨.func, 1, .nilFunc⟩ := rfl
@[simp] theorem tab97 : tab 97 = some ⟨.func, 1, .nilFunc⟩ := rfl
@[simp] theorem tab98 : tab 98 = some ⟨.func, 1, .nilFunc⟩ := rfl
@[simp] theorem tab99 : tab 99 = some ⟨.func, 1, .nilFunc⟩ := rfl
@[simp] theorem tab100 : tab 100 = some ⟨.func, 1, .nilFunc⟩ := rfl
@[simp] theorem tab101 : tab 101 = some ⟨.func, 1, .nilFunc⟩ := rfl
@[simp] theorem tab102 : tab 102 = some ⟨.flat, 1, .pointer none⟩ := rfl
@[simp] theorem tab103 : tab 103 = some ⟨.func, 1, .nilFunc⟩ := rfl
@[simp] theorem tab104 : tab 104 = some ⟨.func, 1, .nilFunc⟩ := rfl
@[simp] theorem tab105 : tab 105 = some ⟨.func, 1, .nilFunc⟩ := rfl
@[simp] theorem tab106 : tab 106 = some ⟨.func, 1, .nilFunc⟩ := rfl
@[simp] theorem tab107 : tab 107 = some ⟨.func, 1, .nilFunc⟩ := rfl
@[simp] theorem tab108 : tab 108 = some ⟨.func, 1, .nilFunc⟩ := rfl
@[simp] theorem tab109 : tab 109 = some ⟨.func, 1, .nilFunc⟩ := rfl
@[simp] theorem tab110 : tab 110 = some ⟨.func, 1, .nilFunc⟩ := rfl
@[simp] theorem tab111 : tab 111 = some ⟨.slc 4 1 1 (.bool false), 1, .slice none 0 0⟩ := rfl
@[simp] theorem tab112 : tab 112 = some ⟨.func, 1, .nilFunc⟩ := rfl
@[simp] theorem tab113 : tab 113 = some ⟨.func, 1, .nilFunc⟩ := rfl
@[simp] theorem tab114 : tab 114 = some ⟨.func, 1, .nilFunc⟩ := rfl
@[simp] theorem tab115 : tab 115 = some ⟨.func, 1, .nilFunc⟩ := rfl
@[simp] theorem tab116 : tab 116 = some ⟨.func, 1, .nilFunc⟩ := rfl
@[simp] theorem tab117 : tab 117 = some ⟨.func, 1, .nilFunc⟩ := rfl
@[simp] theorem tab118 : tab 118 = some ⟨.func, 1, .nilFunc⟩ := rfl
@[simp] theorem tab119 : tab 119 = some ⟨.func, 1, .nilFunc⟩ := rfl
@[simp] theorem tab120 : tab 120 = some ⟨.func, 1, .nilFunc⟩ := rfl
@[simp] theorem tab121 : tab 121 = some ⟨.func, 1, .nilFunc⟩ := rfl
@[simp] theorem tab122 : tab 122 = some ⟨.func, 1, .nilFunc⟩ := rfl
@[simp] theorem tab123 : tab 123 = some ⟨.func, 1, .nilFunc⟩ := rfl
@[simp] theorem tab125 : tab 125 = some ⟨.func, 1, .nilFunc⟩ := rfl
@[simp] theorem tab126 : tab 126 = some ⟨.func, 1, .nilFunc⟩ := rfl
@[simp] theorem tab127 : tab 127 = some ⟨.func, 1, .nilFunc⟩ := rfl
@[simp] theorem tab128 : tab 128 = some ⟨.func, 1, .nilFunc⟩ := rfl
@[simp] theorem tab129 : tab 129 = some ⟨.func, 1, .nilFunc⟩ := rfl
@[simp] theorem tab130 : tab 130 = some ⟨.func, 1, .nilFunc⟩ := rfl
@[simp] theorem tab131 : tab 131 = some ⟨.func, 1, .nilFunc⟩ := rfl
@[simp] theorem tab132 : tab 132 = some ⟨.func, 1, .nilFunc⟩ := rfl
@[simp] theorem tab133 : tab 133 = some ⟨.func, 1, .nilFunc⟩ := rfl
@[simp] theorem tab134 : tab 134 = some ⟨.func, 1, .nilFunc⟩ := rfl
@[simp] theorem tab135 : tab 135 = some ⟨.func, 1, .nilFunc⟩ := rfl
@[simp] theorem tab136 : tab 136 = some ⟨.func, 1, .nilFunc⟩ := rfl
@[simp] theorem tab137 : tab 137 = some ⟨.func, 1, .nilFunc⟩ := rfl
@[simp] theorem tab138 : tab 138 = some ⟨.func, 1, .nilFunc⟩ := rfl
@[simp] theorem tab140 : tab 140 = some ⟨.func, 1, .nilFunc⟩ := rfl
@[simp] theorem tab141 : tab 141 = some ⟨.flat, 1, .pointer none⟩ := rfl
@[simp] theorem tab142 : tab 142 = some ⟨.strct [(0, 1, false), (1, 1, false)], 2, .agg #[.pointer none, .slice none 0 0]⟩ := rfl
@[simp] theorem tab143 : tab 143 = some ⟨.strct [(0, 1, false), (1, 1, false)], 2, .agg #[.pointer none, .slice none 0 0]⟩ := rfl
@[simp] theorem tab144 : tab 144 = some ⟨.func, 1, .nilFunc⟩ := rfl
@[simp] theorem tab145 : tab 145 = some ⟨.iface, 1, .nilIface⟩ := rfl
@[simp] theorem tab146 : tab 146 = some ⟨.iface, 1, .nilIface⟩ := rfl
@[simp] theorem tab148 : tab 148 = some ⟨.func, 1, .nilFunc⟩ := rfl
@[simp] theorem tab149 : tab 149 = some ⟨.func, 1, .nilFunc⟩ := rfl
@[simp] theorem tab150 : tab 150 = some ⟨.func, 1, .nilFunc⟩ := rfl
@[simp] theorem tab151 : tab 151 = some ⟨.func, 1, .nilFunc⟩ := rfl
@[simp] theorem tab152 : tab 152 = some ⟨.func, 1, .nilFunc⟩ := rfl
@[simp] theorem tab153 : tab 153 = some ⟨.func, 1, .nilFunc⟩ := rfl
@[simp] theorem tab154 : tab 154 = some ⟨.func, 1, .nilFunc⟩ := rfl
@[simp] theorem tab155 : tab 155 = some ⟨.func, 1, .nilFunc⟩ := rfl
@[simp] theorem tab156 : tab 156 = some ⟨.strct [(0, 1, false), (1, 1, false), (2, 1, false)], 3, .agg #[.slice none 0 0, .int .i64 0, .int .u64 0]⟩ := rfl
@[simp] theorem tab157 : tab 157 = some ⟨.strct [(0, 1, false), (1, 1, false), (2, 1, false)], 3, .agg #[.slice none 0 0, .int .i64 0, .int .u64 0]⟩ := rfl
@[simp] theorem tab158 : tab 158 = some ⟨.func, 1, .nilFunc⟩ := rfl
@[simp] theorem tab159 : tab 159 = some ⟨.func, 1, .nilFunc⟩ := rfl
@[simp] theorem tab160 : tab 160 = some ⟨.func, 1, .nilFunc⟩ := rfl
@[simp] theorem tab161 : tab 161 = some ⟨.func, 1, .nilFunc⟩ := rfl
@[simp] theorem tab162 : tab 162 = some ⟨.func, 1, .nilFunc⟩ := rfl
@[simp] theorem tab163 : tab 163 = some ⟨.func, 1, .nilFunc⟩ := rfl
@[simp] theorem tab164 : tab 164 = some ⟨.func, 1, .nilFunc⟩ := rfl
@[simp] theorem tab165 : tab 165 = some ⟨.func, 1, .nilFunc⟩ := rfl
@[simp] theorem tab166 : tab 166 = some ⟨.func, 1, .nilFunc⟩ := rfl
@[simp] theorem tab167 : tab 167 = some ⟨.func, 1, .nilFunc⟩ := rfl
@[simp] theorem tab168 : tab 168 = some ⟨.func, 1, .nilFunc⟩ := rfl
@[simp] theorem tab169 : tab 169 = some ⟨.func, 1, .nilFunc⟩ := rfl
@[simp] theorem tab170 : tab 170 = some ⟨.func, 1, .nilFunc⟩ := rfl
@[simp] theorem tab171 : tab 171 = some ⟨.int .u32, 1, .int .u32 0⟩ := rfl
@[simp] theorem tab173 : tab 173 = some ⟨.func, 1, .nilFunc⟩ := rfl
@[simp] theorem tab175 : tab 175 = some ⟨.func, 1, .nilFunc⟩ := rfl
@[simp] theorem tab176 : tab 176 = some ⟨.flat, 1, .pointer none⟩ := rfl
@[simp] theorem tab177 : tab 177 = some ⟨.func, 1, .nilFunc⟩ := rfl
@[simp] theorem tab178 : tab 178 = some ⟨.func, 1, .nilFunc⟩ := rfl
@[simp] theorem tab179 : tab 179 = some ⟨.func, 1, .nilFunc⟩ := rfl
@[simp] theorem tab180 : tab 180 = some ⟨.int .i64, 1, .int .i64 0⟩ := rfl
@[simp] theorem tab182 : tab 182 = some ⟨.func, 1, .nilFunc⟩ := rfl
@[simp] theorem tab183 : tab 183 = some ⟨.func, 1, .nilFunc⟩ := rfl
@[simp] theorem tab184 : tab 184 = some ⟨.func, 1, .nilFunc⟩ := rfl
@[simp] theorem tab185 : tab 185 = some ⟨.func, 1, .nilFunc⟩ := rfl
@[simp] theorem tab187 : tab 187 = some ⟨.func, 1, .nilFunc⟩ := rfl
@[simp] theorem tab188 : tab 188 = some ⟨.func, 1, .nilFunc⟩ := rfl
@[simp] theorem tab189 : tab 189 = some ⟨.func, 1, .nilFunc⟩ := rfl
@[simp] theorem tab190 : tab 190 = some ⟨.func, 1, .nilFunc⟩ := rfl
@[simp] theorem tab191 : tab 191 = some ⟨.func, 1, .nilFunc⟩ := rfl
@[simp] theorem tab192 : tab 192 = some ⟨.func, 1, .nilFunc⟩ := rfl
@[simp] theorem tab194 : tab 194 = some ⟨.func, 1, .nilFunc⟩ := rfl
@[simp] theorem tab195 : tab 195 = some ⟨.func, 1, .nilFunc⟩ := rfl
@[simp] theorem tab196 : tab 196 = some ⟨.func, 1, .nilFunc⟩ := rfl
@[simp] theorem tab197 : tab 197 = some ⟨.int .u64, 1, .int .u64 0⟩ := rfl
@[simp] theorem tab198 : tab 198 = some ⟨.func, 1, .nilFunc⟩ := rfl
@[simp] theorem tab199 : tab 199 = some ⟨.func, 1, .nilFunc⟩ := rfl
@[simp] theorem tab200 : tab 200 = some ⟨.func, 1, .nilFunc⟩ := rfl
@[simp] theorem tab201 : tab 201 = some ⟨.flat, 1, .pointer none⟩ := rfl
@[simp] theorem tab202 : tab 202 = some ⟨.func, 1, .nilFunc⟩ := rfl
@[simp] theorem tab203 : tab 203 = some ⟨.func, 1, .nilFunc⟩ := rfl
@[simp] theorem tab204 : tab 204 = some ⟨.func, 1, .nilFunc⟩ := rfl
@[simp] theorem tab205 : tab 205 = some ⟨.func, 1, .nilFunc⟩ := rfl
@[simp] theorem tab206 : tab 206 = some ⟨.func, 1, .nilFunc⟩ := rfl
@[simp] theorem tab207 : tab 207 = some ⟨.func, 1, .nilFunc⟩ := rfl
@[simp] theorem tab208 : tab 208 = some ⟨.func, 1, .nilFunc⟩ := rfl
@[simp] theorem tab209 : tab 209 = some ⟨.func, 1, .nilFunc⟩ := rfl
@[simp] theorem tab210 : tab 210 = some ⟨.func, 1, .nilFunc⟩ := rfl
@[simp] theorem tab211 : tab 211 = some ⟨.func, 1, .nilFunc⟩ := rfl
@[simp] theorem tab212 : tab 212 = some ⟨.func, 1, .nilFunc⟩ := rfl
@[simp] theorem tab213 : tab 213 = some ⟨.func, 1, .nilFunc⟩ := rfl
@[simp] theorem tab214 : tab 214 = some ⟨.func, 1, .nilFunc⟩ := rfl
@[simp] theorem tab215 : tab 215 = some ⟨.func, 1, .nilFunc⟩ := rfl
@[simp] theorem tab216 : tab 216 = some ⟨.flat, 1, .pointer none⟩ := rfl
@[simp] theorem tab218 : tab 218 = some ⟨.func, 1, .nilFunc⟩ := rfl
@[simp] theorem tab219 : tab 219 = some ⟨.func, 1, .nilFunc⟩ := rfl
@[simp] theorem tab220 : tab 220 = some ⟨.func, 1, .nilFunc⟩ := rfl
@[simp] theorem tab221 : tab 221 = some ⟨.func, 1, .nilFunc⟩ := rfl
@[simp] theorem tab222 : tab 222 = some ⟨.func, 1, .nilFunc⟩ := rfl
@[simp] theorem tab223 : tab 223 = some ⟨.func, 1, .nilFunc⟩ := rfl
@[simp] theorem tab224 : tab 224 = some ⟨.func, 1, .nilFunc⟩ := rfl
@[simp] theorem tab225 : tab 225 = some ⟨.func, 1, .nilFunc⟩ := rfl
@[simp] theorem tab226 : tab 226 = some ⟨.func, 1, .nilFunc⟩ := rfl
@[simp] theorem tab227 : tab 227 = some ⟨.strct [(0, 1, false), (1, 1, false), (2, 1, false), (3, 1, false)], 4, .agg #[.pointer none, .pointer none, .pointer none, str []]⟩ := rfl
@[simp] theorem tab228 : tab 228 = some ⟨.strct [(0, 1, false), (1, 1, false), (2, 1, false), (3, 1, false)], 4, .agg #[.pointer none, .pointer none, .pointer none, str []]⟩ := rfl
@[simp] theorem tab229 : tab 229 = some ⟨.arr 0 1 false, 0, .agg #[]⟩ := rfl
@[simp] theorem tab230 : tab 230 = some ⟨.strct [(0, 0, true)], 0, .agg #[]⟩ := rfl
@[simp] theorem tab231 : tab 231 = some ⟨.strct [(0, 0, true)], 0, .agg #[]⟩ := rfl
@[simp] theorem tab232 : tab 232 = some ⟨.int .u8, 1, .int .u8 0⟩ := rfl
@[simp] theorem tab233 : tab 233 = some ⟨.int .u8, 1, .int .u8 0⟩ := rfl
@[simp] theorem tab234 : tab 234 = some ⟨.func, 1, .nilFunc⟩ := rfl
@[simp] theorem tab235 : tab 235 = some ⟨.int .i32, 1, .int .i32 0⟩ := rfl
@[simp] theorem tab236 : tab 236 = some ⟨.int .i32, 1, .int .i32 0⟩ := rfl
@[simp] theorem tab237 : tab 237 = some ⟨.strct [(0, 1, false), (1, 1, false), (2, 1, false), (3, 1, false), (4, 1, false), (5, 1, false), (6, 1, false), (7, 1, false), (8, 1, false), (9, 1, false), (10, 1, false)], 11, .agg #[.int .u64 0, .int .u64 0, .int .u32 0, .int .u8 0, .int .u8 0, .int .u8 0, .int .u8 0, .nilFunc, .pointer none, .int .i32 0, .int .i32 0]⟩ := rfl
@[simp] theorem tab238 : tab 238 = some ⟨.strct [(0, 1, false), (1, 1, false), (2, 1, false), (3, 1, false), (4, 1, false), (5, 1, false), (6, 1, false), (7, 1, false), (8, 1, false), (9, 1, false), (10, 1, false)], 11, .agg #[.int .u64 0, .int .u64 0, .int .u32 0, .int .u8 0, .int .u8 0, .int .u8 0, .int .u8 0, .nilFunc, .pointer none, .int .i32 0, .int .i32 0]⟩ := rfl
theorem info_of {t : TypeId} {z : Value} {s b : Nat} (h : (Try.prog.info? t).map (fun i => (i.zero, i.size, i.bytes)) = some (some z, s, b)) : ∃ I, Try.prog.info? t = some I ∧ I.size = s ∧ I.bytes = b ∧ I.zero = some z := by
  obtain ⟨I, h1, h2⟩ := Option.map_eq_some_iff.1 h
  injection h2 with h2 h3
  injection h3 with h3 h4
  exact ⟨I, h1, h3, h4, h2⟩
theorem info_two {t : TypeId} {z : Value} {s b : Nat} (h : (Try.prog.info? t).map (fun i => (i.zero, i.size, i.bytes)) = some (some z, s, b)) : ∃ I, Try.prog.info? t = some I ∧ I.zero = some z ∧ I.size = s := by
  obtain ⟨I, h1, h2, _, h4⟩ := info_of h
  exact ⟨I, h1, h4, h2⟩
theorem inf1 : (Try.prog.info? 1).map (fun i => (i.zero, i.size, i.bytes)) = some (some (.nilFunc), 1, 8) := by kernel_rfl
theorem inf2 : (Try.prog.info? 2).map (fun i => (i.zero, i.size, i.bytes)) = some (some (.int .i64 0), 1, 8) := by kernel_rfl
theorem inf3 : (Try.prog.info? 3).map (fun i => (i.zero, i.size, i.bytes)) = some (some (.int .i64 0), 1, 8) := by kernel_rfl
theorem inf4 : (Try.prog.info? 4).map (fun i => (i.zero, i.size, i.bytes)) = some (some (.bool false), 1, 1) := by kernel_rfl
theorem inf5 : (Try.prog.info? 5).map (fun i => (i.zero, i.size, i.bytes)) = some (some (.int .u8 0), 1, 1) := by kernel_rfl
theorem inf6 : (Try.prog.info? 6).map (fun i => (i.zero, i.size, i.bytes)) = some (some (.int .u8 0), 1, 1) := by kernel_rfl
theorem inf7 : (Try.prog.info? 7).map (fun i => (i.zero, i.size, i.bytes)) = some (some (.agg #[.int .i64 0, .int .i64 0, .bool false, .int .u8 0]), 4, 24) := by kernel_rfl
theorem inf8 : (Try.prog.info? 8).map (fun i => (i.zero, i.size, i.bytes)) = some (some (.agg #[.int .i64 0, .int .i64 0, .bool false, .int .u8 0]), 4, 24) := by kernel_rfl
theorem inf9 : (Try.prog.info? 9).map (fun i => (i.zero, i.size, i.bytes)) = some (some (str []), 1, 16) := by kernel_rfl
theorem inf10 : (Try.prog.info? 10).map (fun i => (i.zero, i.size, i.bytes)) = some (some (str []), 1, 16) := by kernel_rfl
theorem inf11 : (Try.prog.info? 11).map (fun i => (i.zero, i.size, i.bytes)) = some (some (str []), 1, 16) := by kernel_rfl
theorem inf12 : (Try.prog.info? 12).map (fun i => (i.zero, i.size, i.bytes)) = some (some (.int .u64 0), 1, 8) := by kernel_rfl
theorem inf13 : (Try.prog.info? 13).map (fun i => (i.zero, i.size, i.bytes)) = some (some (.agg #[str [], .int .u64 0]), 2, 24) := by kernel_rfl
theorem inf14 : (Try.prog.info? 14).map (fun i => (i.zero, i.size, i.bytes)) = some (some (.agg #[str [], .int .u64 0]), 2, 24) := by kernel_rfl
theorem inf15 : (Try.prog.info? 15).map (fun i => (i.zero, i.size, i.bytes)) = some (some (.pointer none), 1, 8) := by kernel_rfl
theorem inf16 : (Try.prog.info? 16).map (fun i => (i.zero, i.size, i.bytes)) = some (some (.pointer none), 1, 8) := by kernel_rfl
theorem inf17 : (Try.prog.info? 17).map (fun i => (i.zero, i.size, i.bytes)) = some (some (.pointer none), 1, 8) := by kernel_rfl
theorem inf18 : (Try.prog.info? 18).map (fun i => (i.zero, i.size, i.bytes)) = some (some (.agg #[.pointer none]), 1, 8) := by kernel_rfl
theorem inf19 : (Try.prog.info? 19).map (fun i => (i.zero, i.size, i.bytes)) = some (some (.agg #[.pointer none]), 1, 8) := by kernel_rfl
theorem inf20 : (Try.prog.info? 20).map (fun i => (i.zero, i.size, i.bytes)) = some (some (.nilIface), 1, 16) := by kernel_rfl
theorem inf21 : (Try.prog.info? 21).map (fun i => (i.zero, i.size, i.bytes)) = some (some (.int .i32 0), 1, 4) := by kernel_rfl
theorem inf22 : (Try.prog.info? 22).map (fun i => (i.zero, i.size, i.bytes)) = some (some (.slice none 0 0), 1, 24) := by kernel_rfl
theorem inf23 : (Try.prog.info? 23).map (fun i => (i.zero, i.size, i.bytes)) = some (some (.nilFunc), 1, 8) := by kernel_rfl
theorem inf24 : (Try.prog.info? 24).map (fun i => (i.zero, i.size, i.bytes)) = some (some (.pointer none), 1, 8) := by kernel_rfl
theorem inf25 : (Try.prog.info? 25).map (fun i => (i.zero, i.size, i.bytes)) = some (some (.nilFunc), 1, 8) := by kernel_rfl
theorem inf26 : (Try.prog.info? 26).map (fun i => (i.zero, i.size, i.bytes)) = some (some (.int .u64 0), 1, 8) := by kernel_rfl
theorem inf27 : (Try.prog.info? 27).map (fun i => (i.zero, i.size, i.bytes)) = some (some (.slice none 0 0), 1, 24) := by kernel_rfl
theorem inf28 : (Try.prog.info? 28).map (fun i => (i.zero, i.size, i.bytes)) = some (some (.nilFunc), 1, 8) := by kernel_rfl
theorem inf30 : (Try.prog.info? 30).map (fun i => (i.zero, i.size, i.bytes)) = some (some (.nilFunc), 1, 8) := by kernel_rfl
theorem inf31 : (Try.prog.info? 31).map (fun i => (i.zero, i.size, i.bytes)) = some (some (.nilFunc), 1, 8) := by kernel_rfl
theorem inf32 : (Try.prog.info? 32).map (fun i => (i.zero, i.size, i.bytes)) = some (some (.slice none 0 0), 1, 24) := by kernel_rfl
theorem inf34 : (Try.prog.info? 34).map (fun i => (i.zero, i.size, i.bytes)) = some (some (.nilFunc), 1, 8) := by kernel_rfl
theorem inf35 : (Try.prog.info? 35).map (fun i => (i.zero, i.size, i.bytes)) = some (some (.nilFunc), 1, 8) := by kernel_rfl
theorem inf37 : (Try.prog.info? 37).map (fun i => (i.zero, i.size, i.bytes)) = some (some (.nilFunc), 1, 8) := by kernel_rfl
theorem inf38 : (Try.prog.info? 38).map (fun i => (i.zero, i.size, i.bytes)) = some (some (.nilFunc), 1, 8) := by kernel_rfl
theorem inf40 : (Try.prog.info? 40).map (fun i => (i.zero, i.size, i.bytes)) = some (some (.nilFunc), 1, 8) := by kernel_rfl
theorem inf42 : (Try.prog.info? 42).map (fun i => (i.zero, i.size, i.bytes)) = some (some (.nilFunc), 1, 8) := by kernel_rfl
theorem inf43 : (Try.prog.info? 43).map (fun i => (i.zero, i.size, i.bytes)) = some (some (.nilFunc), 1, 8) := by kernel_rfl
theorem inf44 : (Try.prog.info? 44).map (fun i => (i.zero, i.size, i.bytes)) = some (some (.nilFunc), 1, 8) := by kernel_rfl
theorem inf45 : (Try.prog.info? 45).map (fun i => (i.zero, i.size, i.bytes)) = some (some (.nilFunc), 1, 8) := by kernel_rfl
theorem inf46 : (Try.prog.info? 46).map (fun i => (i.zero, i.size, i.bytes)) = some (some (.agg #[.slice none 0 0]), 1, 24) := by kernel_rfl
theorem inf47 : (Try.prog.info? 47).map (fun i => (i.zero, i.size, i.bytes)) = some (some (.agg #[.slice none 0 0]), 1, 24) := by kernel_rfl
theorem inf48 : (Try.prog.info? 48).map (fun i => (i.zero, i.size, i.bytes)) = some (some (.nilFunc), 1, 8) := by kernel_rfl
theorem inf49 : (Try.prog.info? 49).map (fun i => (i.zero, i.size, i.bytes)) = some (some (.nilFunc), 1, 8) := by kernel_rfl
theorem inf51 : (Try.prog.info? 51).map (fun i => (i.zero, i.size, i.bytes)) = some (some (.nilFunc), 1, 8) := by kernel_rfl
theorem inf52 : (Try.prog.info? 52).map (fun i => (i.zero, i.size, i.bytes)) = some (some (.nilFunc), 1, 8) := by kernel_rfl
theorem inf53 : (Try.prog.info? 53).map (fun i => (i.zero, i.size, i.bytes)) = some (some (.nilFunc), 1, 8) := by kernel_rfl
theorem inf55 : (Try.prog.info? 55).map (fun i => (i.zero, i.size, i.bytes)) = some (some (.nilFunc), 1, 8) := by kernel_rfl
theorem inf56 : (Try.prog.info? 56).map (fun i => (i.zero, i.size, i.bytes)) = some (some (.slice none 0 0), 1, 24) := by kernel_rfl
theorem inf57 : (Try.prog.info? 57).map (fun i => (i.zero, i.size, i.bytes)) = some (some (.nilFunc), 1, 8) := by kernel_rfl
theorem inf58 : (Try.prog.info? 58).map (fun i => (i.zero, i.size, i.bytes)) = some (some (.nilFunc), 1, 8) := by kernel_rfl
theorem inf59 : (Try.prog.info? 59).map (fun i => (i.zero, i.size, i.bytes)) = some (some (.nilFunc), 1, 8) := by kernel_rfl
theorem inf60 : (Try.prog.info? 60).map (fun i => (i.zero, i.size, i.bytes)) = some (some (.nilFunc), 1, 8) := by kernel_rfl
theorem inf62 : (Try.prog.info? 62).map (fun i => (i.zero, i.size, i.bytes)) = some (some (.nilFunc), 1, 8) := by kernel_rfl
theorem inf63 : (Try.prog.info? 63).map (fun i => (i.zero, i.size, i.bytes)) = some (some (.nilFunc), 1, 8) := by kernel_rfl
theorem inf64 : (Try.prog.info? 64).map (fun i => (i.zero, i.size, i.bytes)) = some (some (.nilFunc), 1, 8) := by kernel_rfl
theorem inf66 : (Try.prog.info? 66).map (fun i => (i.zero, i.size, i.bytes)) = some (some (.nilFunc), 1, 8) := by kernel_rfl
theorem inf67 : (Try.prog.info? 67).map (fun i => (i.zero, i.size, i.bytes)) = some (some (.nilFunc), 1, 8) := by kernel_rfl
theorem inf68 : (Try.prog.info? 68).map (fun i => (i.zero, i.size, i.bytes)) = some (some (.nilFunc), 1, 8) := by kernel_rfl
theorem inf69 : (Try.prog.info? 69).map (fun i => (i.zero, i.size, i.bytes)) = some (some (.slice none 0 0), 1, 24) := by kernel_rfl
theorem inf71 : (Try.prog.info? 71).map (fun i => (i.zero, i.size, i.bytes)) = some (some (.nilFunc), 1, 8) := by kernel_rfl
theorem inf72 : (Try.prog.info? 72).map (fun i => (i.zero, i.size, i.bytes)) = some (some (.nilFunc), 1, 8) := by kernel_rfl
theorem inf73 : (Try.prog.info? 73).map (fun i => (i.zero, i.size, i.bytes)) = some (some (.nilFunc), 1, 8) := by kernel_rfl
theorem inf74 : (Try.prog.info? 74).map (fun i => (i.zero, i.size, i.bytes)) = some (some (.nilFunc), 1, 8) := by kernel_rfl
theorem inf75 : (Try.prog.info? 75).map (fun i => (i.zero, i.size, i.bytes)) = some (some (.agg #[.slice none 0 0, .int .i64 0, .int .u64 0]), 3, 40) := by kernel_rfl
theorem inf76 : (Try.prog.info? 76).map (fun i => (i.zero, i.size, i.bytes)) = some (some (.agg #[.slice none 0 0, .int .i64 0, .int .u64 0]), 3, 40) := by kernel_rfl
theorem inf77 : (Try.prog.info? 77).map (fun i => (i.zero, i.size, i.bytes)) = some (some (.int .u64 0), 1, 8) := by kernel_rfl
theorem inf78 : (Try.prog.info? 78).map (fun i => (i.zero, i.size, i.bytes)) = some (some (.nilFunc), 1, 8) := by kernel_rfl
theorem inf79 : (Try.prog.info? 79).map (fun i => (i.zero, i.size, i.bytes)) = some (some (.nilFunc), 1, 8) := by kernel_rfl
theorem inf80 : (Try.prog.info? 80).map (fun i => (i.zero, i.size, i.bytes)) = some (some (.nilFunc), 1, 8) := by kernel_rfl
theorem inf81 : (Try.prog.info? 81).map (fun i => (i.zero, i.size, i.bytes)) = some (some (.nilFunc), 1, 8) := by kernel_rfl
theorem inf83 : (Try.prog.info? 83).map (fun i => (i.zero, i.size, i.bytes)) = some (some (.nilFunc), 1, 8) := by kernel_rfl
theorem inf84 : (Try.prog.info? 84).map (fun i => (i.zero, i.size, i.bytes)) = some (some (.nilFunc), 1, 8) := by kernel_rfl
theorem inf85 : (Try.prog.info? 85).map (fun i => (i.zero, i.size, i.bytes)) = some (some (.nilFunc), 1, 8) := by kernel_rfl
theorem inf86 : (Try.prog.info? 86).map (fun i => (i.zero, i.size, i.bytes)) = some (some (.nilFunc), 1, 8) := by kernel_rfl
theorem inf87 : (Try.prog.info? 87).map (fun i => (i.zero, i.size, i.bytes)) = some (some (.nilFunc), 1, 8) := by kernel_rfl
theorem inf88 : (Try.prog.info? 88).map (fun i => (i.zero, i.size, i.bytes)) = some (some (.nilFunc), 1, 8) := by kernel_rfl
theorem inf89 : (Try.prog.info? 89).map (fun i => (i.zero, i.size, i.bytes)) = some (some (.nilFunc), 1, 8) := by kernel_rfl
theorem inf91 : (Try.prog.info? 91).map (fun i => (i.zero, i.size, i.bytes)) = some (some (.nilFunc), 1, 8) := by kernel_rfl
theorem inf92 : (Try.prog.info? 92).map (fun i => (i.zero, i.size, i.bytes)) = some (some (.agg #[str [], str [], str []]), 3, 48) := by kernel_rfl
theorem inf93 : (Try.prog.info? 93).map (fun i => (i.zero, i.size, i.bytes)) = some (some (.nilFunc), 1, 8) := by kernel_rfl
theorem inf94 : (Try.prog.info? 94).map (fun i => (i.zero, i.size, i.bytes)) = some (some (.nilFunc), 1, 8) := by kernel_rfl
theorem inf95 : (Try.prog.info? 95).map (fun i => (i.zero, i.size, i.bytes)) = some (some (.nilFunc), 1, 8) := by kernel_rfl
theorem inf96 : (Try.prog.info? 96).map (fun i => (i.zero, i.size, i.bytes)) = some (some (.nilFunc), 1, 8) := by kernel_rfl
theorem inf97 : (Try.prog.info? 97).map (fun i => (i.zero, i.size, i.bytes)) = some (some (.nilFunc), 1, 8) := by kernel_rfl
theorem inf98 : (Try.prog.info? 98).map (fun i => (i.zero, i.size, i.bytes)) = some (some (.nilFunc), 1, 8) := by kernel_rfl
theorem inf99 : (Try.prog.info? 99).map (fun i => (i.zero, i.size, i.bytes)) = some (some (.nilFunc), 1, 8) := by kernel_rfl
theorem inf100 : (Try.prog.info? 100).map (fun i => (i.zero, i.size, i.bytes)) = some (some (.nilFunc), 1, 8) := by kernel_rfl
theorem inf101 : (Try.prog.info? 101).map (fun i => (i.zero, i.size, i.bytes)) = some (some (.nilFunc), 1, 8) := by kernel_rfl
theorem inf102 : (Try.prog.info? 102).map (fun i => (i.zero, i.size, i.bytes)) = some (some (.pointer none), 1, 8) := by kernel_rfl
theorem inf103 : (Try.prog.info? 103).map (fun i => (i.zero, i.size, i.bytes)) = some (some (.nilFunc), 1, 8) := by kernel_rfl
theorem inf104 : (Try.prog.info? 104).map (fun i => (i.zero, i.size, i.bytes)) = some (some (.nilFunc), 1, 8) := by kernel_rfl
theorem inf105 : (Try.prog.info? 105).map (fun i => (i.zero, i.size, i.bytes)) = some (some (.nilFunc), 1, 8) := by kernel_rfl
theorem inf106 : (Try.prog.info? 106).map (fun i => (i.zero, i.size, i.bytes)) = some (some (.nilFunc), 1, 8) := by kernel_rfl
theorem inf107 : (Try.prog.info? 107).map (fun i => (i.zero, i.size, i.bytes)) = some (some (.nilFunc), 1, 8) := by kernel_rfl
theorem inf108 : (Try.prog.info? 108).map (fun i => (i.zero, i.size, i.bytes)) = some (some (.nilFunc), 1, 8) := by kernel_rfl
theorem inf109 : (Try.prog.info? 109).map (fun i => (i.zero, i.size, i.bytes)) = some (some (.nilFunc), 1, 8) := by kernel_rfl
theorem inf110 : (Try.prog.info? 110).map (fun i => (i.zero, i.size, i.bytes)) = some (some (.nilFunc), 1, 8) := by kernel_rfl
theorem inf111 : (Try.prog.info? 111).map (fun i => (i.zero, i.size, i.bytes)) = some (some (.slice none 0 0), 1, 24) := by kernel_rfl
theorem inf112 : (Try.prog.info? 112).map (fun i => (i.zero, i.size, i.bytes)) = some (some (.nilFunc), 1, 8) := by kernel_rfl
theorem inf113 : (Try.prog.info? 113).map (fun i => (i.zero, i.size, i.bytes)) = some (some (.nilFunc), 1, 8) := by kernel_rfl
theorem inf114 : (Try.prog.info? 114).map (fun i => (i.zero, i.size, i.bytes)) = some (some (.nilFunc), 1, 8) := by kernel_rfl
theorem inf115 : (Try.prog.info? 115).map (fun i => (i.zero, i.size, i.bytes)) = some (some (.nilFunc), 1, 8) := by kernel_rfl
theorem inf116 : (Try.prog.info? 116).map (fun i => (i.zero, i.size, i.bytes)) = some (some (.nilFunc), 1, 8) := by kernel_rfl
theorem inf117 : (Try.prog.info? 117).map (fun i => (i.zero, i.size, i.bytes)) = some (some (.nilFunc), 1, 8) := by kernel_rfl
theorem inf118 : (Try.prog.info? 118).map (fun i => (i.zero, i.size, i.bytes)) = some (some (.nilFunc), 1, 8) := by kernel_rfl
theorem inf119 : (Try.prog.info? 119).map (fun i => (i.zero, i.size, i.bytes)) = some (some (.nilFunc), 1, 8) := by kernel_rfl
theorem inf120 : (Try.prog.info? 120).map (fun i => (i.zero, i.size, i.bytes)) = some (some (.nilFunc), 1, 8) := by kernel_rfl
theorem inf121 : (Try.prog.info? 121).map (fun i => (i.zero, i.size, i.bytes)) = some (some (.nilFunc), 1, 8) := by kernel_rfl
theorem inf122 : (Try.prog.info? 122).map (fun i => (i.zero, i.size, i.bytes)) = some (some (.nilFunc), 1, 8) := by kernel_rfl
theorem inf123 : (Try.prog.info? 123).map (fun i => (i.zero, i.size, i.bytes)) = some (some (.nilFunc), 1, 8) := by kernel_rfl
theorem inf125 : (Try.prog.info? 125).map (fun i => (i.zero, i.size, i.bytes)) = some (some (.nilFunc), 1, 8) := by kernel_rfl
theorem inf126 : (Try.prog.info? 126).map (fun i => (i.zero, i.size, i.bytes)) = some (some (.nilFunc), 1, 8) := by kernel_rfl
theorem inf127 : (Try.prog.info? 127).map (fun i => (i.zero, i.size, i.bytes)) = some (some (.nilFunc), 1, 8) := by kernel_rfl
theorem inf128 : (Try.prog.info? 128).map (fun i => (i.zero, i.size, i.bytes)) = some (some (.nilFunc), 1, 8) := by kernel_rfl
theorem inf129 : (Try.prog.info? 129).map (fun i => (i.zero, i.size, i.bytes)) = some (some (.nilFunc), 1, 8) := by kernel_rfl
theorem inf130 : (Try.prog.info? 130).map (fun i => (i.zero, i.size, i.bytes)) = some (some (.nilFunc), 1, 8) := by kernel_rfl
theorem inf131 : (Try.prog.info? 131).map (fun i => (i.zero, i.size, i.bytes)) = some (some (.nilFunc), 1, 8) := by kernel_rfl
theorem inf132 : (Try.prog.info? 132).map (fun i => (i.zero, i.size, i.bytes)) = some (some (.nilFunc), 1, 8) := by kernel_rfl
theorem inf133 : (Try.prog.info? 133).map (fun i => (i.zero, i.size, i.bytes)) = some (some (.nilFunc), 1, 8) := by kernel_rfl
theorem inf134 : (Try.prog.info? 134).map (fun i => (i.zero, i.size, i.bytes)) = some (some (.nilFunc), 1, 8) := by kernel_rfl
theorem inf135 : (Try.prog.info? 135).map (fun i => (i.zero, i.size, i.bytes)) = some (some (.nilFunc), 1, 8) := by kernel_rfl
theorem inf136 : (Try.prog.info? 136).map (fun i => (i.zero, i.size, i.bytes)) = some (some (.nilFunc), 1, 8) := by kernel_rfl
theorem inf137 : (Try.prog.info? 137).map (fun i => (i.zero, i.size, i.bytes)) = some (some (.nilFunc), 1, 8) := by kernel_rfl
theorem inf138 : (Try.prog.info? 138).map (fun i => (i.zero, i.size, i.bytes)) = some (some (.nilFunc), 1, 8) := by kernel_rfl
theorem inf140 : (Try.prog.info? 140).map (fun i => (i.zero, i.size, i.bytes)) = some (some (.nilFunc), 1, 8) := by kernel_rfl
theorem inf141 : (Try.prog.info? 141).map (fun i => (i.zero, i.size, i.bytes)) = some (some (.pointer none), 1, 8) := by kernel_rfl
theorem inf142 : (Try.prog.info? 142).map (fun i => (i.zero, i.size, i.bytes)) = some (some (.agg #[.pointer none, .slice none 0 0]), 2, 32) := by kernel_rfl
theorem inf143 : (Try.prog.info? 143).map (fun i => (i.zero, i.size, i.bytes)) = some (some (.agg #[.pointer none, .slice none 0 0]), 2, 32) := by kernel_rfl
theorem inf144 : (Try.prog.info? 144).map (fun i => (i.zero, i.size, i.bytes)) = some (some (.nilFunc), 1, 8) := by kernel_rfl
theorem inf145 : (Try.prog.info? 145).map (fun i => (i.zero, i.size, i.bytes)) = some (some (.nilIface), 1, 16) := by kernel_rfl
theorem inf146 : (Try.prog.info? 146).map (fun i => (i.zero, i.size, i.bytes)) = some (some (.nilIface), 1, 16) := by kernel_rfl
theorem inf148 : (Try.prog.info? 148).map (fun i => (i.zero, i.size, i.bytes)) = some (some (.nilFunc), 1, 8) := by kernel_rfl
theorem inf149 : (Try.prog.info? 149).map (fun i => (i.zero, i.size, i.bytes)) = some (some (.nilFunc), 1, 8) := by kernel_rfl
theorem inf150 : (Try.prog.info? 150).map (fun i => (i.zero, i.size, i.bytes)) = some (some (.nilFunc), 1, 8) := by kernel_rfl
theorem inf151 : (Try.prog.info? 151).map (fun i => (i.zero, i.size, i.bytes)) = some (some (.nilFunc), 1, 8) := by kernel_rfl
theorem inf152 : (Try.prog.info? 152).map (fun i => (i.zero, i.size, i.bytes)) = some (some (.nilFunc), 1, 8) := by kernel_rfl
theorem inf153 : (Try.prog.info? 153).map (fun i => (i.zero, i.size, i.bytes)) = some (some (.nilFunc), 1, 8) := by kernel_rfl
theorem inf154 : (Try.prog.info? 154).map (fun i => (i.zero, i.size, i.bytes)) = some (some (.nilFunc), 1, 8) := by kernel_rfl
theorem inf155 : (Try.prog.info? 155).map (fun i => (i.zero, i.size, i.bytes)) = some (some (.nilFunc), 1, 8) := by kernel_rfl
theorem inf156 : (Try.prog.info? 156).map (fun i => (i.zero, i.size, i.bytes)) = some (some (.agg #[.slice none 0 0, .int .i64 0, .int .u64 0]), 3, 40) := by kernel_rfl
theorem inf157 : (Try.prog.info? 157).map (fun i => (i.zero, i.size, i.bytes)) = some (some (.agg #[.slice none 0 0, .int .i64 0, .int .u64 0]), 3, 40) := by kernel_rfl
theorem inf158 : (Try.prog.info? 158).map (fun i => (i.zero, i.size, i.bytes)) = some (some (.nilFunc), 1, 8) := by kernel_rfl
theorem inf159 : (Try.prog.info? 159).map (fun i => (i.zero, i.size, i.bytes)) = some (some (.nilFunc), 1, 8) := by kernel_rfl
theorem inf160 : (Try.prog.info? 160).map (fun i => (i.zero, i.size, i.bytes)) = some (some (.nilFunc), 1, 8) := by kernel_rfl
theorem inf161 : (Try.prog.info? 161).map (fun i => (i.zero, i.size, i.bytes)) = some (some (.nilFunc), 1, 8) := by kernel_rfl
theorem inf162 : (Try.prog.info? 162).map (fun i => (i.zero, i.size, i.bytes)) = some (some (.nilFunc), 1, 8) := by kernel_rfl
theorem inf163 : (Try.prog.info? 163).map (fun i => (i.zero, i.size, i.bytes)) = some (some (.nilFunc), 1, 8) := by kernel_rfl
theorem inf164 : (Try.prog.info? 164).map (fun i => (i.zero, i.size, i.bytes)) = some (some (.nilFunc), 1, 8) := by kernel_rfl
theorem inf165 : (Try.prog.info? 165).map (fun i => (i.zero, i.size, i.bytes)) = some (some (.nilFunc), 1, 8) := by kernel_rfl
theorem inf166 : (Try.prog.info? 166).map (fun i => (i.zero, i.size, i.bytes)) = some (some (.nilFunc), 1, 8) := by kernel_rfl
theorem inf167 : (Try.prog.info? 167).map (fun i => (i.zero, i.size, i.bytes)) = some (some (.nilFunc), 1, 8) := by kernel_rfl
theorem inf168 : (Try.prog.info? 168).map (fun i => (i.zero, i.size, i.bytes)) = some (some (.nilFunc), 1, 8) := by kernel_rfl
theorem inf169 : (Try.prog.info? 169).map (fun i => (i.zero, i.size, i.bytes)) = some (some (.nilFunc), 1, 8) := by kernel_rfl
theorem inf170 : (Try.prog.info? 170).map (fun i => (i.zero, i.size, i.bytes)) = some (some (.nilFunc), 1, 8) := by kernel_rfl
theorem inf171 : (Try.prog.info? 171).map (fun i => (i.zero, i.size, i.bytes)) = some (some (.int .u32 0), 1, 4) := by kernel_rfl
theorem inf173 : (Try.prog.info? 173).map (fun i => (i.zero, i.size, i.bytes)) = some (some (.nilFunc), 1, 8) := by kernel_rfl
theorem inf175 : (Try.prog.info? 175).map (fun i => (i.zero, i.size, i.bytes)) = some (some (.nilFunc), 1, 8) := by kernel_rfl
theorem inf176 : (Try.prog.info? 176).map (fun i => (i.zero, i.size, i.bytes)) = some (some (.pointer none), 1, 8) := by kernel_rfl
theorem inf177 : (Try.prog.info? 177).map (fun i => (i.zero, i.size, i.bytes)) = some (some (.nilFunc), 1, 8) := by kernel_rfl
theorem inf178 : (Try.prog.info? 178).map (fun i => (i.zero, i.size, i.bytes)) = some (some (.nilFunc), 1, 8) := by kernel_rfl
theorem inf179 : (Try.prog.info? 179).map (fun i => (i.zero, i.size, i.bytes)) = some (some (.nilFunc), 1, 8) := by kernel_rfl
theorem inf180 : (Try.prog.info? 180).map (fun i => (i.zero, i.size, i.bytes)) = some (some (.int .i64 0), 1, 8) := by kernel_rfl
theorem inf182 : (Try.prog.info? 182).map (fun i => (i.zero, i.size, i.bytes)) = some (some (.nilFunc), 1, 8) := by kernel_rfl
theorem inf183 : (Try.prog.info? 183).map (fun i => (i.zero, i.size, i.bytes)) = some (some (.nilFunc), 1, 8) := by kernel_rfl
theorem inf184 : (Try.prog.info? 184).map (fun i => (i.zero, i.size, i.bytes)) = some (some (.nilFunc), 1, 8) := by kernel_rfl
theorem inf185 : (Try.prog.info? 185).map (fun i => (i.zero, i.size, i.bytes)) = some (some (.nilFunc), 1, 8) := by kernel_rfl
theorem inf187 : (Try.prog.info? 187).map (fun i => (i.zero, i.size, i.bytes)) = some (some (.nilFunc), 1, 8) := by kernel_rfl
theorem inf188 : (Try.prog.info? 188).map (fun i => (i.zero, i.size, i.bytes)) = some (some (.nilFunc), 1, 8) := by kernel_rfl
theorem inf189 : (Try.prog.info? 189).map (fun i => (i.zero, i.size, i.bytes)) = some (some (.nilFunc), 1, 8) := by kernel_rfl
theorem inf190 : (Try.prog.info? 190).map (fun i => (i.zero, i.size, i.bytes)) = some (some (.nilFunc), 1, 8) := by kernel_rfl
theorem inf191 : (Try.prog.info? 191).map (fun i => (i.zero, i.size, i.bytes)) = some (some (.nilFunc), 1, 8) := by kernel_rfl
theorem inf192 : (Try.prog.info? 192).map (fun i => (i.zero, i.size, i.bytes)) = some (some (.nilFunc), 1, 8) := by kernel_rfl
theorem inf194 : (Try.prog.info? 194).map (fun i => (i.zero, i.size, i.bytes)) = some (some (.nilFunc), 1, 8) := by kernel_rfl
theorem inf195 : (Try.prog.info? 195).map (fun i => (i.zero, i.size, i.bytes)) = some (some (.nilFunc), 1, 8) := by kernel_rfl
theorem inf196 : (Try.prog.info? 196).map (fun i => (i.zero, i.size, i.bytes)) = some (some (.nilFunc), 1, 8) := by kernel_rfl
theorem inf197 : (Try.prog.info? 197).map (fun i => (i.zero, i.size, i.bytes)) = some (some (.int .u64 0), 1, 8) := by kernel_rfl
theorem inf198 : (Try.prog.info? 198).map (fun i => (i.zero, i.size, i.bytes)) = some (some (.nilFunc), 1, 8) := by kernel_rfl
theorem inf199 : (Try.prog.info? 199).map (fun i => (i.zero, i.size, i.bytes)) = some (some (.nilFunc), 1, 8) := by kernel_rfl
theorem inf200 : (Try.prog.info? 200).map (fun i => (i.zero, i.size, i.bytes)) = some (some (.nilFunc), 1, 8) := by kernel_rfl
theorem inf201 : (Try.prog.info? 201).map (fun i => (i.zero, i.size, i.bytes)) = some (some (.pointer none), 1, 8) := by kernel_rfl
theorem inf202 : (Try.prog.info? 202).map (fun i => (i.zero, i.size, i.bytes)) = some (some (.nilFunc), 1, 8) := by kernel_rfl
theorem inf203 : (Try.prog.info? 203).map (fun i => (i.zero, i.size, i.bytes)) = some (some (.nilFunc), 1, 8) := by kernel_rfl
theorem inf204 : (Try.prog.info? 204).map (fun i => (i.zero, i.size, i.bytes)) = some (some (.nilFunc), 1, 8) := by kernel_rfl
theorem inf205 : (Try.prog.info? 205).map (fun i => (i.zero, i.size, i.bytes)) = some (some (.nilFunc), 1, 8) := by kernel_rfl
theorem inf206 : (Try.prog.info? 206).map (fun i => (i.zero, i.size, i.bytes)) = some (some (.nilFunc), 1, 8) := by kernel_rfl
theorem inf207 : (Try.prog.info? 207).map (fun i => (i.zero, i.size, i.bytes)) = some (some (.nilFunc), 1, 8) := by kernel_rfl
theorem inf208 : (Try.prog.info? 208).map (fun i => (i.zero, i.size, i.bytes)) = some (some (.nilFunc), 1, 8) := by kernel_rfl
theorem inf209 : (Try.prog.info? 209).map (fun i => (i.zero, i.size, i.bytes)) = some (some (.nilFunc), 1, 8) := by kernel_rfl
theorem inf210 : (Try.prog.info? 210).map (fun i => (i.zero, i.size, i.bytes)) = some (some (.nilFunc), 1, 8) := by kernel_rfl
theorem inf211 : (Try.prog.info? 211).map (fun i => (i.zero, i.size, i.bytes)) = some (some (.nilFunc), 1, 8) := by kernel_rfl
theorem inf212 : (Try.prog.info? 212).map (fun i => (i.zero, i.size, i.bytes)) = some (some (.nilFunc), 1, 8) := by kernel_rfl
theorem inf213 : (Try.prog.info? 213).map (fun i => (i.zero, i.size, i.bytes)) = some (some (.nilFunc), 1, 8) := by kernel_rfl
theorem inf214 : (Try.prog.info? 214).map (fun i => (i.zero, i.size, i.bytes)) = some (some (.nilFunc), 1, 8) := by kernel_rfl
theorem inf215 : (Try.prog.info? 215).map (fun i => (i.zero, i.size, i.bytes)) = some (some (.nilFunc), 1, 8) := by kernel_rfl
theorem inf216 : (Try.prog.info? 216).map (fun i => (i.zero, i.size, i.bytes)) = some (some (.pointer none), 1, 8) := by kernel_rfl
theorem inf218 : (Try.prog.info? 218).map (fun i => (i.zero, i.size, i.bytes)) = some (some (.nilFunc), 1, 8) := by kernel_rfl
theorem inf219 : (Try.prog.info? 219).map (fun i => (i.zero, i.size, i.bytes)) = some (some (.nilFunc), 1, 8) := by kernel_rfl
theorem inf220 : (Try.prog.info? 220).map (fun i => (i.zero, i.size, i.bytes)) = some (some (.nilFunc), 1, 8) := by kernel_rfl
theorem inf221 : (Try.prog.info? 221).map (fun i => (i.zero, i.size, i.bytes)) = some (some (.nilFunc), 1, 8) := by kernel_rfl
theorem inf222 : (Try.prog.info? 222).map (fun i => (i.zero, i.size, i.bytes)) = some (some (.nilFunc), 1, 8) := by kernel_rfl
theorem inf223 : (Try.prog.info? 223).map (fun i => (i.zero, i.size, i.bytes)) = some (some (.nilFunc), 1, 8) := by kernel_rfl
theorem inf224 : (Try.prog.info? 224).map (fun i => (i.zero, i.size, i.bytes)) = some (some (.nilFunc), 1, 8) := by kernel_rfl
theorem inf225 : (Try.prog.info? 225).map (fun i => (i.zero, i.size, i.bytes)) = some (some (.nilFunc), 1, 8) := by kernel_rfl
theorem inf226 : (Try.prog.info? 226).map (fun i => (i.zero, i.size, i.bytes)) = some (some (.nilFunc), 1, 8) := by kernel_rfl
theorem inf227 : (Try.prog.info? 227).map (fun i => (i.zero, i.size, i.bytes)) = some (some (.agg #[.pointer none, .pointer none, .pointer none, str []]), 4, 40) := by kernel_rfl
theorem inf228 : (Try.prog.info? 228).map (fun i => (i.zero, i.size, i.bytes)) = some (some (.agg #[.pointer none, .pointer none, .pointer none, str []]), 4, 40) := by kernel_rfl
theorem inf229 : (Try.prog.info? 229).map (fun i => (i.zero, i.size, i.bytes)) = some (some (.agg #[]), 0, 0) := by kernel_rfl
theorem inf230 : (Try.prog.info? 230).map (fun i => (i.zero, i.size, i.bytes)) = some (some (.agg #[]), 0, 0) := by kernel_rfl
theorem inf231 : (Try.prog.info? 231).map (fun i => (i.zero, i.size, i.bytes)) = some (some (.agg #[]), 0, 0) := by kernel_rfl
theorem inf232 : (Try.prog.info? 232).map (fun i => (i.zero, i.size, i.bytes)) = some (some (.int .u8 0), 1, 1) := by kernel_rfl
theorem inf233 : (Try.prog.info? 233).map (fun i => (i.zero, i.size, i.bytes)) = some (some (.int .u8 0), 1, 1) := by kernel_rfl
theorem inf234 : (Try.prog.info? 234).map (fun i => (i.zero, i.size, i.bytes)) = some (some (.nilFunc), 1, 8) := by kernel_rfl
theorem inf235 : (Try.prog.info? 235).map (fun i => (i.zero, i.size, i.bytes)) = some (some (.int .i32 0), 1, 4) := by kernel_rfl
theorem inf236 : (Try.prog.info? 236).map (fun i => (i.zero, i.size, i.bytes)) = some (some (.int .i32 0), 1, 4) := by kernel_rfl
theorem inf237 : (Try.prog.info? 237).map (fun i => (i.zero, i.size, i.bytes)) = some (some (.agg #[.int .u64 0, .int .u64 0, .int .u32 0, .int .u8 0, .int .u8 0, .int .u8 0, .int .u8 0, .nilFunc, .pointer none, .int .i32 0, .int .i32 0]), 11, 48) := by kernel_rfl
theorem inf238 : (Try.prog.info? 238).map (fun i => (i.zero, i.size, i.bytes)) = some (some (.agg #[.int .u64 0, .int .u64 0, .int .u32 0, .int .u8 0, .int .u8 0, .int .u8 0, .int .u8 0, .nilFunc, .pointer none, .int .i32 0, .int .i32 0]), 11, 48) := by kernel_rfl
theorem ok1 : TI.ok Try.prog 1 ⟨.func, 1, .nilFunc⟩ := ⟨⟨_, _, _, Try.underlying1⟩, info_two inf1⟩
theorem ok2 : TI.ok Try.prog 2 ⟨.int .i64, 1, .int .i64 0⟩ := ⟨Try.underlying2, info_two inf2⟩
theorem ok3 : TI.ok Try.prog 3 ⟨.int .i64, 1, .int .i64 0⟩ := ⟨Try.underlying3, info_two inf3⟩
theorem ok4 : TI.ok Try.prog 4 ⟨.bool, 1, .bool false⟩ := ⟨Try.underlying4, info_two inf4⟩
theorem ok5 : TI.ok Try.prog 5 ⟨.int .u8, 1, .int .u8 0⟩ := ⟨Try.underlying5, info_two inf5⟩
theorem ok6 : TI.ok Try.prog 6 ⟨.int .u8, 1, .int .u8 0⟩ := ⟨Try.underlying6, info_two inf6⟩
theorem ok7 : TI.ok Try.prog 7 ⟨.strct [(0, 1, false), (1, 1, false), (2, 1, false), (3, 1, false)], 4, .agg #[.int .i64 0, .int .i64 0, .bool false, .int .u8 0]⟩ := ⟨⟨_, Try.underlying7, by kernel_rfl, by
    intro f hf
    simp only [List.mem_cons, List.not_mem_nil, or_false] at hf
    (first | (rcases hf with rfl | rfl | rfl | rfl) | (obtain rfl := hf)) <;> exact ⟨by kernel_rfl, by kernel_rfl⟩⟩, info_two inf7⟩
theorem ok8 : TI.ok Try.prog 8 ⟨.strct [(0, 1, false), (1, 1, false), (2, 1, false), (3, 1, false)], 4, .agg #[.int .i64 0, .int .i64 0, .bool false, .int .u8 0]⟩ := ⟨⟨_, Try.underlying8, by kernel_rfl, by
    intro f hf
    simp only [List.mem_cons, List.not_mem_nil, or_false] at hf
    (first | (rcases hf with rfl | rfl | rfl | rfl) | (obtain rfl := hf)) <;> exact ⟨by kernel_rfl, by kernel_rfl⟩⟩, info_two inf8⟩
theorem ok9 : TI.ok Try.prog 9 ⟨.str, 1, str []⟩ := ⟨Try.underlying9, info_two inf9⟩
theorem ok10 : TI.ok Try.prog 10 ⟨.str, 1, str []⟩ := ⟨Try.underlying10, info_two inf10⟩
theorem ok11 : TI.ok Try.prog 11 ⟨.str, 1, str []⟩ := ⟨Try.underlying11, info_two inf11⟩
theorem ok12 : TI.ok Try.prog 12 ⟨.int .u64, 1, .int .u64 0⟩ := ⟨Try.underlying12, info_two inf12⟩
theorem ok13 : TI.ok Try.prog 13 ⟨.strct [(0, 1, false), (1, 1, false)], 2, .agg #[str [], .int .u64 0]⟩ := ⟨⟨_, Try.underlying13, by kernel_rfl, by
    intro f hf
    simp only [List.mem_cons, List.not_mem_nil, or_false] at hf
    (first | (rcases hf with rfl | rfl) | (obtain rfl := hf)) <;> exact ⟨by kernel_rfl, by kernel_rfl⟩⟩, info_two inf13⟩
theorem ok14 : TI.ok Try.prog 14 ⟨.strct [(0, 1, false), (1, 1, false)], 2, .agg #[str [], .int .u64 0]⟩ := ⟨⟨_, Try.underlying14, by kernel_rfl, by
    intro f hf
    simp only [List.mem_cons, List.not_mem_nil, or_false] at hf
    (first | (rcases hf with rfl | rfl) | (obtain rfl := hf)) <;> exact ⟨by kernel_rfl, by kernel_rfl⟩⟩, info_two inf14⟩
theorem ok15 : TI.ok Try.prog 15 ⟨.flat, 1, .pointer none⟩ := ⟨⟨_, Try.underlying15, rfl⟩, info_two inf15⟩
theorem ok16 : TI.ok Try.prog 16 ⟨.flat, 1, .pointer none⟩ := ⟨⟨_, Try.underlying16, rfl⟩, info_two inf16⟩
theorem ok17 : TI.ok Try.prog 17 ⟨.flat, 1, .pointer none⟩ := ⟨⟨_, Try.underlying17, rfl⟩, info_two inf17⟩
theorem ok18 : TI.ok Try.prog 18 ⟨.strct [(0, 1, false)], 1, .agg #[.pointer none]⟩ := ⟨⟨_, Try.underlying18, by kernel_rfl, by
    intro f hf
    simp only [List.mem_cons, List.not_mem_nil, or_false] at hf
    (first | (rcases hf with rfl) | (obtain rfl := hf)) <;> exact ⟨by kernel_rfl, by kernel_rfl⟩⟩, info_two inf18⟩
theorem ok19 : TI.ok Try.prog 19 ⟨.strct [(0, 1, false)], 1, .agg #[.pointer none]⟩ := ⟨⟨_, Try.underlying19, by kernel_rfl, by
    intro f hf
    simp only [List.mem_cons, List.not_mem_nil, or_false] at hf
    (first | (rcases hf with rfl) | (obtain rfl := hf)) <;> exact ⟨by kernel_rfl, by kernel_rfl⟩⟩, info_two inf19⟩
theorem ok20 : TI.ok Try.prog 20 ⟨.iface, 1, .nilIface⟩ := ⟨⟨_, Try.underlying20⟩, info_two inf20⟩
theorem ok21 : TI.ok Try.prog 21 ⟨.int .i32, 1, .int .i32 0⟩ := ⟨Try.underlying21, info_two inf21⟩
theorem ok22 : TI.ok Try.prog 22 ⟨.slc 5 1 1 (.int .u8 0), 1, .slice none 0 0⟩ := ⟨⟨Try.underlying22, info_of inf5⟩, info_two inf22⟩
theorem ok23 : TI.ok Try.prog 23 ⟨.func, 1, .nilFunc⟩ := ⟨⟨_, _, _, Try.underlying23⟩, info_two inf23⟩
theorem ok24 : TI.ok Try.prog 24 ⟨.flat, 1, .pointer none⟩ := ⟨⟨_, Try.underlying24, rfl⟩, info_two inf24⟩
theorem ok25 : TI.ok Try.prog 25 ⟨.func, 1, .nilFunc⟩ := ⟨⟨_, _, _, Try.underlying25⟩, info_two inf25⟩
theorem ok26 : TI.ok Try.prog 26 ⟨.int .u64, 1, .int .u64 0⟩ := ⟨Try.underlying26, info_two inf26⟩
theorem ok27 : TI.ok Try.prog 27 ⟨.slc 9 1 16 (str []), 1, .slice none 0 0⟩ := ⟨⟨Try.underlying27, info_of inf9⟩, info_two inf27⟩
theorem ok28 : TI.ok Try.prog 28 ⟨.func, 1, .nilFunc⟩ := ⟨⟨_, _, _, Try.underlying28⟩, info_two inf28⟩
theorem ok30 : TI.ok Try.prog 30 ⟨.func, 1, .nilFunc⟩ := ⟨⟨_, _, _, Try.underlying30⟩, info_two inf30⟩
theorem ok31 : TI.ok Try.prog 31 ⟨.func, 1, .nilFunc⟩ := ⟨⟨_, _, _, Try.underlying31⟩, info_two inf31⟩
theorem ok32 : TI.ok Try.prog 32 ⟨.slc 2 1 8 (.int .i64 0), 1, .slice none 0 0⟩ := ⟨⟨Try.underlying32, info_of inf2⟩, info_two inf32⟩
theorem ok34 : TI.ok Try.prog 34 ⟨.func, 1, .nilFunc⟩ := ⟨⟨_, _, _, Try.underlying34⟩, info_two inf34⟩
theorem ok35 : TI.ok Try.prog 35 ⟨.func, 1, .nilFunc⟩ := ⟨⟨_, _, _, Try.underlying35⟩, info_two inf35⟩
theorem ok37 : TI.ok Try.prog 37 ⟨.func, 1, .nilFunc⟩ := ⟨⟨_, _, _, Try.underlying37⟩, info_two inf37⟩
theorem ok38 : TI.ok Try.prog 38 ⟨.func, 1, .nilFunc⟩ := ⟨⟨_, _, _, Try.underlying38⟩, info_two inf38⟩
theorem ok40 : TI.ok Try.prog 40 ⟨.func, 1, .nilFunc⟩ := ⟨⟨_, _, _, Try.underlying40⟩, info_two inf40⟩
theorem ok42 : TI.ok Try.prog 42 ⟨.func, 1, .nilFunc⟩ := ⟨⟨_, _, _, Try.underlying42⟩, info_two inf42⟩
theorem ok43 : TI.ok Try.prog 43 ⟨.func, 1, .nilFunc⟩ := ⟨⟨_, _, _, Try.underlying43⟩, info_two inf43⟩
theorem ok44 : TI.ok Try.prog 44 ⟨.func, 1, .nilFunc⟩ := ⟨⟨_, _, _, Try.underlying44⟩, info_two inf44⟩
theorem ok45 : TI.ok Try.prog 45 ⟨.func, 1, .nilFunc⟩ := ⟨⟨_, _, _, Try.underlying45⟩, info_two inf45⟩
theorem ok46 : TI.ok Try.prog 46 ⟨.strct [(0, 1, false)], 1, .agg #[.slice none 0 0]⟩ := ⟨⟨_, Try.underlying46, by kernel_rfl, by
    intro f hf
    simp only [List.mem_cons, List.not_mem_nil, or_false] at hf
    (first | (rcases hf with rfl) | (obtain rfl := hf)) <;> exact ⟨by kernel_rfl, by kernel_rfl⟩⟩, info_two inf46⟩
theorem ok47 : TI.ok Try.prog 47 ⟨.strct [(0, 1, false)], 1, .agg #[.slice none 0 0]⟩ := ⟨⟨_, Try.underlying47, by kernel_rfl, by
    intro f hf
    simp only [List.mem_cons, List.not_mem_nil, or_false] at hf
    (first | (rcases hf with rfl) | (obtain rfl := hf)) <;> exact ⟨by kernel_rfl, by kernel_rfl⟩⟩, info_two inf47⟩
theorem ok48 : TI.ok Try.prog 48 ⟨.func, 1, .nilFunc⟩ := ⟨⟨_, _, _, Try.underlying48⟩, info_two inf48⟩
theorem ok49 : TI.ok Try.prog 49 ⟨.func, 1, .nilFunc⟩ := ⟨⟨_, _, _, Try.underlying49⟩, info_two inf49⟩
theorem ok51 : TI.ok Try.prog 51 ⟨.func, 1, .nilFunc⟩ := ⟨⟨_, _, _, Try.underlying51⟩, info_two inf51⟩
theorem ok52 : TI.ok Try.prog 52 ⟨.func, 1, .nilFunc⟩ := ⟨⟨_, _, _, Try.underlying52⟩, info_two inf52⟩
theorem ok53 : TI.ok Try.prog 53 ⟨.func, 1, .nilFunc⟩ := ⟨⟨_, _, _, Try.underlying53⟩, info_two inf53⟩
theorem ok55 : TI.ok Try.prog 55 ⟨.func, 1, .nilFunc⟩ := ⟨⟨_, _, _, Try.underlying55⟩, info_two inf55⟩
theorem ok56 : TI.ok Try.prog 56 ⟨.slc 3 1 8 (.int .i64 0), 1, .slice none 0 0⟩ := ⟨⟨Try.underlying56, info_of inf3⟩, info_two inf56⟩
theorem ok57 : TI.ok Try.prog 57 ⟨.func, 1, .nilFunc⟩ := ⟨⟨_, _, _, Try.underlying57⟩, info_two inf57⟩
theorem ok58 : TI.ok Try.prog 58 ⟨.func, 1, .nilFunc⟩ := ⟨⟨_, _, _, Try.underlying58⟩, info_two inf58⟩
theorem ok59 : TI.ok Try.prog 59 ⟨.func, 1, .nilFunc⟩ := ⟨⟨_, _, _, Try.underlying59⟩, info_two inf59⟩
theorem ok60 : TI.ok Try.prog 60 ⟨.func, 1, .nilFunc⟩ := ⟨⟨_, _, _, Try.underlying60⟩, info_two inf60⟩
theorem ok62 : TI.ok Try.prog 62 ⟨.func, 1, .nilFunc⟩ := ⟨⟨_, _, _, Try.underlying62⟩, info_two inf62⟩
theorem ok63 : TI.ok Try.prog 63 ⟨.func, 1, .nilFunc⟩ := ⟨⟨_, _, _, Try.underlying63⟩, info_two inf63⟩
theorem ok64 : TI.ok Try.prog 64 ⟨.func, 1, .nilFunc⟩ := ⟨⟨_, _, _, Try.underlying64⟩, info_two inf64⟩
theorem ok66 : TI.ok Try.prog 66 ⟨.func, 1, .nilFunc⟩ := ⟨⟨_, _, _, Try.underlying66⟩, info_two inf66⟩
theorem ok67 : TI.ok Try.prog 67 ⟨.func, 1, .nilFunc⟩ := ⟨⟨_, _, _, Try.underlying67⟩, info_two inf67⟩
theorem ok68 : TI.ok Try.prog 68 ⟨.func, 1, .nilFunc⟩ := ⟨⟨_, _, _, Try.underlying68⟩, info_two inf68⟩
theorem ok69 : TI.ok Try.prog 69 ⟨.slc 32 1 24 (.slice none 0 0), 1, .slice none 0 0⟩ := ⟨⟨Try.underlying69, info_of inf32⟩, info_two inf69⟩
theorem ok71 : TI.ok Try.prog 71 ⟨.func, 1, .nilFunc⟩ := ⟨⟨_, _, _, Try.underlying71⟩, info_two inf71⟩
theorem ok72 : TI.ok Try.prog 72 ⟨.func, 1, .nilFunc⟩ := ⟨⟨_, _, _, Try.underlying72⟩, info_two inf72⟩
theorem ok73 : TI.ok Try.prog 73 ⟨.func, 1, .nilFunc⟩ := ⟨⟨_, _, _, Try.underlying73⟩, info_two inf73⟩
theorem ok74 : TI.ok Try.prog 74 ⟨.func, 1, .nilFunc⟩ := ⟨⟨_, _, _, Try.underlying74⟩, info_two inf74⟩
theorem ok75 : TI.ok Try.prog 75 ⟨.strct [(0, 1, false), (1, 1, false), (2, 1, false)], 3, .agg #[.slice none 0 0, .int .i64 0, .int .u64 0]⟩ := ⟨⟨_, Try.underlying75, by kernel_rfl, by
    intro f hf
    simp only [List.mem_cons, List.not_mem_nil, or_false] at hf
    (first | (rcases hf with rfl | rfl | rfl) | (obtain rfl := hf)) <;> exact ⟨by kernel_rfl, by kernel_rfl⟩⟩, info_two inf75⟩
theorem ok76 : TI.ok Try.prog 76 ⟨.strct [(0, 1, false), (1, 1, false), (2, 1, false)], 3, .agg #[.slice none 0 0, .int .i64 0, .int .u64 0]⟩ := ⟨⟨_, Try.underlying76, by kernel_rfl, by
    intro f hf
    simp only [List.mem_cons, List.not_mem_nil, or_false] at hf
    (first | (rcases hf with rfl | rfl | rfl) | (obtain rfl := hf)) <;> exact ⟨by kernel_rfl, by kernel_rfl⟩⟩, info_two inf76⟩
theorem ok77 : TI.ok Try.prog 77 ⟨.int .u64, 1, .int .u64 0⟩ := ⟨Try.underlying77, info_two inf77⟩
theorem ok78 : TI.ok Try.prog 78 ⟨.func, 1, .nilFunc⟩ := ⟨⟨_, _, _, Try.underlying78⟩, info_two inf78⟩
theorem ok79 : TI.ok Try.prog 79 ⟨.func, 1, .nilFunc⟩ := ⟨⟨_, _, _, Try.underlying79⟩, info_two inf79⟩
theorem ok80 : TI.ok Try.prog 80 ⟨.func, 1, .nilFunc⟩ := ⟨⟨_, _, _, Try.underlying80⟩, info_two inf80⟩
theorem ok81 : TI.ok Try.prog 81 ⟨.func, 1, .nilFunc⟩ := ⟨⟨_, _, _, Try.underlying81⟩, info_two inf81⟩
theorem ok83 : TI.ok Try.prog 83 ⟨.func, 1, .nilFunc⟩ := ⟨⟨_, _, _, Try.underlying83⟩, info_two inf83⟩
theorem ok84 : TI.ok Try.prog 84 ⟨.func, 1, .nilFunc⟩ := ⟨⟨_, _, _, Try.underlying84⟩, info_two inf84⟩
theorem ok85 : TI.ok Try.prog 85 ⟨.func, 1, .nilFunc⟩ := ⟨⟨_, _, _, Try.underlying85⟩, info_two inf85⟩
theorem ok86 : TI.ok Try.prog 86 ⟨.func, 1, .nilFunc⟩ := ⟨⟨_, _, _, Try.underlying86⟩, info_two inf86⟩
theorem ok87 : TI.ok Try.prog 87 ⟨.func, 1, .nilFunc⟩ := ⟨⟨_, _, _, Try.underlying87⟩, info_two inf87⟩
theorem ok88 : TI.ok Try.prog 88 ⟨.func, 1, .nilFunc⟩ := ⟨⟨_, _, _, Try.underlying88⟩, info_two inf88⟩
theorem ok89 : TI.ok Try.prog 89 ⟨.func, 1, .nilFunc⟩ := ⟨⟨_, _, _, Try.underlying89⟩, info_two inf89⟩
theorem ok91 : TI.ok Try.prog 91 ⟨.func, 1, .nilFunc⟩ := ⟨⟨_, _, _, Try.underlying91⟩, info_two inf91⟩
theorem ok92 : TI.ok Try.prog 92 ⟨.arr 3 1 false, 3, .agg #[str [], str [], str []]⟩ := ⟨⟨_, Try.underlying92, (let ⟨I, a, b, _⟩ := info_of inf9; ⟨I, a, b⟩), by kernel_rfl, by kernel_rfl⟩, info_two inf92⟩
theorem ok93 : TI.ok Try.prog 93 ⟨.func, 1, .nilFunc⟩ := ⟨⟨_, _, _, Try.underlying93⟩, info_two inf93⟩
theorem ok94 : TI.ok Try.prog 94 ⟨.func, 1, .nilFunc⟩ := ⟨⟨_, _, _, Try.underlying94⟩, info_two inf94⟩
theorem ok95 : TI.ok Try.prog 95 ⟨.func, 1, .nilFunc⟩ := ⟨⟨_, _, _, Try.underlying95⟩, info_two inf95⟩
theorem ok96 : TI.ok Try.prog 96 ⟨.func, 1, .nilFunc⟩ := ⟨⟨_, _, _, Try.underlying96⟩, info_two inf96⟩
theorem ok97 : TI.ok Try.prog 97 ⟨.func, 1, .nilFunc⟩ := ⟨⟨_, _, _, Try.underlying97⟩, info_two inf97⟩
theorem ok98 : TI.ok Try.prog 98 ⟨.func, 1, .nilFunc⟩ := ⟨⟨_, _, _, Try.underlying98⟩, info_two inf98⟩
theorem ok99 : TI.ok Try.prog 99 ⟨.func, 1, .nilFunc⟩ := ⟨⟨_, _, _, Try.underlying99⟩, info_two inf99⟩
theorem ok100 : TI.ok Try.prog 100 ⟨.func, 1, .nilFunc⟩ := ⟨⟨_, _, _, Try.underlying100⟩, info_two inf100⟩
theorem ok101 : TI.ok Try.prog 101 ⟨.func, 1, .nilFunc⟩ := ⟨⟨_, _, _, Try.underlying101⟩, info_two inf101⟩
theorem ok102 : TI.ok Try.prog 102 ⟨.flat, 1, .pointer none⟩ := ⟨⟨_, Try.underlying102, rfl⟩, info_two inf102⟩
theorem ok103 : TI.ok Try.prog 103 ⟨.func, 1, .nilFunc⟩ := ⟨⟨_, _, _, Try.underlying103⟩, info_two inf103⟩
theorem ok104 : TI.ok Try.prog 104 ⟨.func, 1, .nilFunc⟩ := ⟨⟨_, _, _, Try.underlying104⟩, info_two inf104⟩
theorem ok105 : TI.ok Try.prog 105 ⟨.func, 1, .nilFunc⟩ := ⟨⟨_, _, _, Try.underlying105⟩, info_two inf105⟩
theorem ok106 : TI.ok Try.prog 106 ⟨.func, 1, .nilFunc⟩ := ⟨⟨_, _, _, Try.underlying106⟩, info_two inf106⟩
theorem ok107 : TI.ok Try.prog 107 ⟨.func, 1, .nilFunc⟩ := ⟨⟨_, _, _, Try.underlying107⟩, info_two inf107⟩
theorem ok108 : TI.ok Try.prog 108 ⟨.func, 1, .nilFunc⟩ := ⟨⟨_, _, _, Try.underlying108⟩, info_two inf108⟩
theorem ok109 : TI.ok Try.prog 109 ⟨.func, 1, .nilFunc⟩ := ⟨⟨_, _, _, Try.underlying109⟩, info_two inf109⟩
theorem ok110 : TI.ok Try.prog 110 ⟨.func, 1, .nilFunc⟩ := ⟨⟨_, _, _, Try.underlying110⟩, info_two inf110⟩
theorem ok111 : TI.ok Try.prog 111 ⟨.slc 4 1 1 (.bool false), 1, .slice none 0 0⟩ := ⟨⟨Try.underlying111, info_of inf4⟩, info_two inf111⟩
theorem ok112 : TI.ok Try.prog 112 ⟨.func, 1, .nilFunc⟩ := ⟨⟨_, _, _, Try.underlying112⟩, info_two inf112⟩
theorem ok113 : TI.ok Try.prog 113 ⟨.func, 1, .nilFunc⟩ := ⟨⟨_, _, _, Try.underlying113⟩, info_two inf113⟩
theorem ok114 : TI.ok Try.prog 114 ⟨.func, 1, .nilFunc⟩ := ⟨⟨_, _, _, Try.underlying114⟩, info_two inf114⟩
theorem ok115 : TI.ok Try.prog 115 ⟨.func, 1, .nilFunc⟩ := ⟨⟨_, _, _, Try.underlying115⟩, info_two inf115⟩
theorem ok116 : TI.ok Try.prog 116 ⟨.func, 1, .nilFunc⟩ := ⟨⟨_, _, _, Try.underlying116⟩, info_two inf116⟩
theorem ok117 : TI.ok Try.prog 117 ⟨.func, 1, .nilFunc⟩ := ⟨⟨_, _, _, Try.underlying117⟩, info_two inf117⟩
theorem ok118 : TI.ok Try.prog 118 ⟨.func, 1, .nilFunc⟩ := ⟨⟨_, _, _, Try.underlying118⟩, info_two inf118⟩
theorem ok119 : TI.ok Try.prog 119 ⟨.func, 1, .nilFunc⟩ := ⟨⟨_, _, _, Try.underlying119⟩, info_two inf119⟩
theorem ok120 : TI.ok Try.prog 120 ⟨.func, 1, .nilFunc⟩ := ⟨⟨_, _, _, Try.underlying120⟩, info_two inf120⟩
theorem ok121 : TI.ok Try.prog 121 ⟨.func, 1, .nilFunc⟩ := ⟨⟨_, _, _, Try.underlying121⟩, info_two inf121⟩
theorem ok122 : TI.ok Try.prog 122 ⟨.func, 1, .nilFunc⟩ := ⟨⟨_, _, _, Try.underlying122⟩, info_two inf122⟩
theorem ok123 : TI.ok Try.prog 123 ⟨.func, 1, .nilFunc⟩ := ⟨⟨_, _, _, Try.underlying123⟩, info_two inf123⟩
theorem ok125 : TI.ok Try.prog 125 ⟨.func, 1, .nilFunc⟩ := ⟨⟨_, _, _, Try.underlying125⟩, info_two inf125⟩
theorem ok126 : TI.ok Try.prog 126 ⟨.func, 1, .nilFunc⟩ := ⟨⟨_, _, _, Try.underlying126⟩, info_two inf126⟩
theorem ok127 : TI.ok Try.prog 127 ⟨.func, 1, .nilFunc⟩ := ⟨⟨_, _, _, Try.underlying127⟩, info_two inf127⟩
theorem ok128 : TI.ok Try.prog 128 ⟨.func, 1, .nilFunc⟩ := ⟨⟨_, _, _, Try.underlying128⟩, info_two inf128⟩
theorem ok129 : TI.ok Try.prog 129 ⟨.func, 1, .nilFunc⟩ := ⟨⟨_, _, _, Try.underlying129⟩, info_two inf129⟩
theorem ok130 : TI.ok Try.prog 130 ⟨.func, 1, .nilFunc⟩ := ⟨⟨_, _, _, Try.underlying130⟩, info_two inf130⟩
theorem ok131 : TI.ok Try.prog 131 ⟨.func, 1, .nilFunc⟩ := ⟨⟨_, _, _, Try.underlying131⟩, info_two inf131⟩
theorem ok132 : TI.ok Try.prog 132 ⟨.func, 1, .nilFunc⟩ := ⟨⟨_, _, _, Try.underlying132⟩, info_two inf132⟩
theorem ok133 : TI.ok Try.prog 133 ⟨.func, 1, .nilFunc⟩ := ⟨⟨_, _, _, Try.underlying133⟩, info_two inf133⟩
theorem ok134 : TI.ok Try.prog 134 ⟨.func, 1, .nilFunc⟩ := ⟨⟨_, _, _, Try.underlying134⟩, info_two inf134⟩
theorem ok135 : TI.ok Try.prog 135 ⟨.func, 1, .nilFunc⟩ := ⟨⟨_, _, _, Try.underlying135⟩, info_two inf135⟩
theorem ok136 : TI.ok Try.prog 136 ⟨.func, 1, .nilFunc⟩ := ⟨⟨_, _, _, Try.underlying136⟩, info_two inf136⟩
theorem ok137 : TI.ok Try.prog 137 ⟨.func, 1, .nilFunc⟩ := ⟨⟨_, _, _, Try.underlying137⟩, info_two inf137⟩
theorem ok138 : TI.ok Try.prog 138 ⟨.func, 1, .nilFunc⟩ := ⟨⟨_, _, _, Try.underlying138⟩, info_two inf138⟩
theorem ok140 : TI.ok Try.prog 140 ⟨.func, 1, .nilFunc⟩ := ⟨⟨_, _, _, Try.underlying140⟩, info_two inf140⟩
theorem ok141 : TI.ok Try.prog 141 ⟨.flat, 1, .pointer none⟩ := ⟨⟨_, Try.underlying141, rfl⟩, info_two inf141⟩
theorem ok142 : TI.ok Try.prog 142 ⟨.strct [(0, 1, false), (1, 1, false)], 2, .agg #[.pointer none, .slice none 0 0]⟩ := ⟨⟨_, Try.underlying142, by kernel_rfl, by
    intro f hf
    simp only [List.mem_cons, List.not_mem_nil, or_false] at hf
    (first | (rcases hf with rfl | rfl) | (obtain rfl := hf)) <;> exact ⟨by kernel_rfl, by kernel_rfl⟩⟩, info_two inf142⟩
theorem ok143 : TI.ok Try.prog 143 ⟨.strct [(0, 1, false), (1, 1, false)], 2, .agg #[.pointer none, .slice none 0 0]⟩ := ⟨⟨_, Try.underlying143, by kernel_rfl, by
    intro f hf
    simp only [List.mem_cons, List.not_mem_nil, or_false] at hf
    (first | (rcases hf with rfl | rfl) | (obtain rfl := hf)) <;> exact ⟨by kernel_rfl, by kernel_rfl⟩⟩, info_two inf143⟩
theorem ok144 : TI.ok Try.prog 144 ⟨.func, 1, .nilFunc⟩ := ⟨⟨_, _, _, Try.underlying144⟩, info_two inf144⟩
theorem ok145 : TI.ok Try.prog 145 ⟨.iface, 1, .nilIface⟩ := ⟨⟨_, Try.underlying145⟩, info_two inf145⟩
theorem ok146 : TI.ok Try.prog 146 ⟨.iface, 1, .nilIface⟩ := ⟨⟨_, Try.underlying146⟩, info_two inf146⟩
theorem ok148 : TI.ok Try.prog 148 ⟨.func, 1, .nilFunc⟩ := ⟨⟨_, _, _, Try.underlying148⟩, info_two inf148⟩
theorem ok149 : TI.ok Try.prog 149 ⟨.func, 1, .nilFunc⟩ := ⟨⟨_, _, _, Try.underlying149⟩, info_two inf149⟩
theorem ok150 : TI.ok Try.prog 150 ⟨.func, 1, .nilFunc⟩ := ⟨⟨_, _, _, Try.underlying150⟩, info_two inf150⟩
theorem ok151 : TI.ok Try.prog 151 ⟨.func, 1, .nilFunc⟩ := ⟨⟨_, _, _, Try.underlying151⟩, info_two inf151⟩
theorem ok152 : TI.ok Try.prog 152 ⟨.func, 1, .nilFunc⟩ := ⟨⟨_, _, _, Try.underlying152⟩, info_two inf152⟩
theorem ok153 : TI.ok Try.prog 153 ⟨.func, 1, .nilFunc⟩ := ⟨⟨_, _, _, Try.underlying153⟩, info_two inf153⟩
theorem ok154 : TI.ok Try.prog 154 ⟨.func, 1, .nilFunc⟩ := ⟨⟨_, _, _, Try.underlying154⟩, info_two inf154⟩
theorem ok155 : TI.ok Try.prog 155 ⟨.func, 1, .nilFunc⟩ := ⟨⟨_, _, _, Try.underlying155⟩, info_two inf155⟩
theorem ok156 : TI.ok Try.prog 156 ⟨.strct [(0, 1, false), (1, 1, false), (2, 1, false)], 3, .agg #[.slice none 0 0, .int .i64 0, .int .u64 0]⟩ := ⟨⟨_, Try.underlying156, by kernel_rfl, by
    intro f hf
    simp only [List.mem_cons, List.not_mem_nil, or_false] at hf
    (first | (rcases hf with rfl | rfl | rfl) | (obtain rfl := hf)) <;> exact ⟨by kernel_rfl, by kernel_rfl⟩⟩, info_two inf156⟩
theorem ok157 : TI.ok Try.prog 157 ⟨.strct [(0, 1, false), (1, 1, false), (2, 1, false)], 3, .agg #[.slice none 0 0, .int .i64 0, .int .u64 0]⟩ := ⟨⟨_, Try.underlying157, by kernel_rfl, by
    intro f hf
    simp only [List.mem_cons, List.not_mem_nil, or_false] at hf
    (first | (rcases hf with rfl | rfl | rfl) | (obtain rfl := hf)) <;> exact ⟨by kernel_rfl, by kernel_rfl⟩⟩, info_two inf157⟩
theorem ok158 : TI.ok Try.prog 158 ⟨.func, 1, .nilFunc⟩ := ⟨⟨_, _, _, Try.underlying158⟩, info_two inf158⟩
theorem ok159 : TI.ok Try.prog 159 ⟨.func, 1, .nilFunc⟩ := ⟨⟨_, _, _, Try.underlying159⟩, info_two inf159⟩
theorem ok160 : TI.ok Try.prog 160 ⟨.func, 1, .nilFunc⟩ := ⟨⟨_, _, _, Try.underlying160⟩, info_two inf160⟩
theorem ok161 : TI.ok Try.prog 161 ⟨.func, 1, .nilFunc⟩ := ⟨⟨_, _, _, Try.underlying161⟩, info_two inf161⟩
theorem ok162 : TI.ok Try.prog 162 ⟨.func, 1, .nilFunc⟩ := ⟨⟨_, _, _, Try.underlying162⟩, info_two inf162⟩
theorem ok163 : TI.ok Try.prog 163 ⟨.func, 1, .nilFunc⟩ := ⟨⟨_, _, _, Try.underlying163⟩, info_two inf163⟩
theorem ok164 : TI.ok Try.prog 164 ⟨.func, 1, .nilFunc⟩ := ⟨⟨_, _, _, Try.underlying164⟩, info_two inf164⟩
theorem ok165 : TI.ok Try.prog 165 ⟨.func, 1, .nilFunc⟩ := ⟨⟨_, _, _, Try.underlying165⟩, info_two inf165⟩
theorem ok166 : TI.ok Try.prog 166 ⟨.func, 1, .nilFunc⟩ := ⟨⟨_, _, _, Try.underlying166⟩, info_two inf166⟩
theorem ok167 : TI.ok Try.prog 167 ⟨.func, 1, .nilFunc⟩ := ⟨⟨_, _, _, Try.underlying167⟩, info_two inf167⟩
theorem ok168 : TI.ok Try.prog 168 ⟨.func, 1, .nilFunc⟩ := ⟨⟨_, _, _, Try.underlying168⟩, info_two inf168⟩
theorem ok169 : TI.ok Try.prog 169 ⟨.func, 1, .nilFunc⟩ := ⟨⟨_, _, _, Try.underlying169⟩, info_two inf169⟩
theorem ok170 : TI.ok Try.prog 170 ⟨.func, 1, .nilFunc⟩ := ⟨⟨_, _, _, Try.underlying170⟩, info_two inf170⟩
theorem ok171 : TI.ok Try.prog 171 ⟨.int .u32, 1, .int .u32 0⟩ := ⟨Try.underlying171, info_two inf171⟩
theorem ok173 : TI.ok Try.prog 173 ⟨.func, 1, .nilFunc⟩ := ⟨⟨_, _, _, Try.underlying173⟩, info_two inf173⟩
theorem ok175 : TI.ok Try.prog 175 ⟨.func, 1, .nilFunc⟩ := ⟨⟨_, _, _, Try.underlying175⟩, info_two inf175⟩
theorem ok176 : TI.ok Try.prog 176 ⟨.flat, 1, .pointer none⟩ := ⟨⟨_, Try.underlying176, rfl⟩, info_two inf176⟩
theorem ok177 : TI.ok Try.prog 177 ⟨.func, 1, .nilFunc⟩ := ⟨⟨_, _, _, Try.underlying177⟩, info_two inf177⟩
theorem ok178 : TI.ok Try.prog 178 ⟨.func, 1, .nilFunc⟩ := ⟨⟨_, _, _, Try.underlying178⟩, info_two inf178⟩
theorem ok179 : TI.ok Try.prog 179 ⟨.func, 1, .nilFunc⟩ := ⟨⟨_, _, _, Try.underlying179⟩, info_two inf179⟩
theorem ok180 : TI.ok Try.prog 180 ⟨.int .i64, 1, .int .i64 0⟩ := ⟨Try.underlying180, info_two inf180⟩
theorem ok182 : TI.ok Try.prog 182 ⟨.func, 1, .nilFunc⟩ := ⟨⟨_, _, _, Try.underlying182⟩, info_two inf182⟩
theorem ok183 : TI.ok Try.prog 183 ⟨.func, 1, .nilFunc⟩ := ⟨⟨_, _, _, Try.underlying183⟩, info_two inf183⟩
theorem ok184 : TI.ok Try.prog 184 ⟨.func, 1, .nilFunc⟩ := ⟨⟨_, _, _, Try.underlying184⟩, info_two inf184⟩
theorem ok185 : TI.ok Try.prog 185 ⟨.func, 1, .nilFunc⟩ := ⟨⟨_, _, _, Try.underlying185⟩, info_two inf185⟩
theorem ok187 : TI.ok Try.prog 187 ⟨.func, 1, .nilFunc⟩ := ⟨⟨_, _, _, Try.underlying187⟩, info_two inf187⟩
theorem ok188 : TI.ok Try.prog 188 ⟨.func, 1, .nilFunc⟩ := ⟨⟨_, _, _, Try.underlying188⟩, info_two inf188⟩
theorem ok189 : TI.ok Try.prog 189 ⟨.func, 1, .nilFunc⟩ := ⟨⟨_, _, _, Try.underlying189⟩, info_two inf189⟩
theorem ok190 : TI.ok Try.prog 190 ⟨.func, 1, .nilFunc⟩ := ⟨⟨_, _, _, Try.underlying190⟩, info_two inf190⟩
theorem ok191 : TI.ok Try.prog 191 ⟨.func, 1, .nilFunc⟩ := ⟨⟨_, _, _, Try.underlying191⟩, info_two inf191⟩
theorem ok192 : TI.ok Try.prog 192 ⟨.func, 1, .nilFunc⟩ := ⟨⟨_, _, _, Try.underlying192⟩, info_two inf192⟩
theorem ok194 : TI.ok Try.prog 194 ⟨.func, 1, .nilFunc⟩ := ⟨⟨_, _, _, Try.underlying194⟩, info_two inf194⟩
theorem ok195 : TI.ok Try.prog 195 ⟨.func, 1, .nilFunc⟩ := ⟨⟨_, _, _, Try.underlying195⟩, info_two inf195⟩
theorem ok196 : TI.ok Try.prog 196 ⟨.func, 1, .nilFunc⟩ := ⟨⟨_, _, _, Try.underlying196⟩, info_two inf196⟩
theorem ok197 : TI.ok Try.prog 197 ⟨.int .u64, 1, .int .u64 0⟩ := ⟨Try.underlying197, info_two inf197⟩
theorem ok198 : TI.ok Try.prog 198 ⟨.func, 1, .nilFunc⟩ := ⟨⟨_, _, _, Try.underlying198⟩, info_two inf198⟩
theorem ok199 : TI.ok Try.prog 199 ⟨.func, 1, .nilFunc⟩ := ⟨⟨_, _, _, Try.underlying199⟩, info_two inf199⟩
theorem ok200 : TI.ok Try.prog 200 ⟨.func, 1, .nilFunc⟩ := ⟨⟨_, _, _, Try.underlying200⟩, info_two inf200⟩
theorem ok201 : TI.ok Try.prog 201 ⟨.flat, 1, .pointer none⟩ := ⟨⟨_, Try.underlying201, rfl⟩, info_two inf201⟩
theorem ok202 : TI.ok Try.prog 202 ⟨.func, 1, .nilFunc⟩ := ⟨⟨_, _, _, Try.underlying202⟩, info_two inf202⟩
theorem ok203 : TI.ok Try.prog 203 ⟨.func, 1, .nilFunc⟩ := ⟨⟨_, _, _, Try.underlying203⟩, info_two inf203⟩
theorem ok204 : TI.ok Try.prog 204 ⟨.func, 1, .nilFunc⟩ := ⟨⟨_, _, _, Try.underlying204⟩, info_two inf204⟩
theorem ok205 : TI.ok Try.prog 205 ⟨.func, 1, .nilFunc⟩ := ⟨⟨_, _, _, Try.underlying205⟩, info_two inf205⟩
theorem ok206 : TI.ok Try.prog 206 ⟨.func, 1, .nilFunc⟩ := ⟨⟨_, _, _, Try.underlying206⟩, info_two inf206⟩
theorem ok207 : TI.ok Try.prog 207 ⟨.func, 1, .nilFunc⟩ := ⟨⟨_, _, _, Try.underlying207⟩, info_two inf207⟩
theorem ok208 : TI.ok Try.prog 208 ⟨.func, 1, .nilFunc⟩ := ⟨⟨_, _, _, Try.underlying208⟩, info_two inf208⟩
theorem ok209 : TI.ok Try.prog 209 ⟨.func, 1, .nilFunc⟩ := ⟨⟨_, _, _, Try.underlying209⟩, info_two inf209⟩
theorem ok210 : TI.ok Try.prog 210 ⟨.func, 1, .nilFunc⟩ := ⟨⟨_, _, _, Try.underlying210⟩, info_two inf210⟩
theorem ok211 : TI.ok Try.prog 211 ⟨.func, 1, .nilFunc⟩ := ⟨⟨_, _, _, Try.underlying211⟩, info_two inf211⟩
theorem ok212 : TI.ok Try.prog 212 ⟨.func, 1, .nilFunc⟩ := ⟨⟨_, _, _, Try.underlying212⟩, info_two inf212⟩
theorem ok213 : TI.ok Try.prog 213 ⟨.func, 1, .nilFunc⟩ := ⟨⟨_, _, _, Try.underlying213⟩, info_two inf213⟩
theorem ok214 : TI.ok Try.prog 214 ⟨.func, 1, .nilFunc⟩ := ⟨⟨_, _, _, Try.underlying214⟩, info_two inf214⟩
theorem ok215 : TI.ok Try.prog 215 ⟨.func, 1, .nilFunc⟩ := ⟨⟨_, _, _, Try.underlying215⟩, info_two inf215⟩
theorem ok216 : TI.ok Try.prog 216 ⟨.flat, 1, .pointer none⟩ := ⟨⟨_, Try.underlying216, rfl⟩, info_two inf216⟩
theorem ok218 : TI.ok Try.prog 218 ⟨.func, 1, .nilFunc⟩ := ⟨⟨_, _, _, Try.underlying218⟩, info_two inf218⟩
theorem ok219 : TI.ok Try.prog 219 ⟨.func, 1, .nilFunc⟩ := ⟨⟨_, _, _, Try.underlying219⟩, info_two inf219⟩
theorem ok220 : TI.ok Try.prog 220 ⟨.func, 1, .nilFunc⟩ := ⟨⟨_, _, _, Try.underlying220⟩, info_two inf220⟩
theorem ok221 : TI.ok Try.prog 221 ⟨.func, 1, .nilFunc⟩ := ⟨⟨_, _, _, Try.underlying221⟩, info_two inf221⟩
theorem ok222 : TI.ok Try.prog 222 ⟨.func, 1, .nilFunc⟩ := ⟨⟨_, _, _, Try.underlying222⟩, info_two inf222⟩
theorem ok223 : TI.ok Try.prog 223 ⟨.func, 1, .nilFunc⟩ := ⟨⟨_, _, _, Try.underlying223⟩, info_two inf223⟩
theorem ok224 : TI.ok Try.prog 224 ⟨.func, 1, .nilFunc⟩ := ⟨⟨_, _, _, Try.underlying224⟩, info_two inf224⟩
theorem ok225 : TI.ok Try.prog 225 ⟨.func, 1, .nilFunc⟩ := ⟨⟨_, _, _, Try.underlying225⟩, info_two inf225⟩
theorem ok226 : TI.ok Try.prog 226 ⟨.func, 1, .nilFunc⟩ := ⟨⟨_, _, _, Try.underlying226⟩, info_two inf226⟩
theorem ok227 : TI.ok Try.prog 227 ⟨.strct [(0, 1, false), (1, 1, false), (2, 1, false), (3, 1, false)], 4, .agg #[.pointer none, .pointer none, .pointer none, str []]⟩ := ⟨⟨_, Try.underlying227, by kernel_rfl, by
    intro f hf
    simp only [List.mem_cons, List.not_mem_nil, or_false] at hf
    (first | (rcases hf with rfl | rfl | rfl | rfl) | (obtain rfl := hf)) <;> exact ⟨by kernel_rfl, by kernel_rfl⟩⟩, info_two inf227⟩
theorem ok228 : TI.ok Try.prog 228 ⟨.strct [(0, 1, false), (1, 1, false), (2, 1, false), (3, 1, false)], 4, .agg #[.pointer none, .pointer none, .pointer none, str []]⟩ := ⟨⟨_, Try.underlying228, by kernel_rfl, by
    intro f hf
    simp only [List.mem_cons, List.not_mem_nil, or_false] at hf
    (first | (rcases hf with rfl | rfl | rfl | rfl) | (obtain rfl := hf)) <;> exact ⟨by kernel_rfl, by kernel_rfl⟩⟩, info_two inf228⟩
theorem ok229 : TI.ok Try.prog 229 ⟨.arr 0 1 false, 0, .agg #[]⟩ := ⟨⟨_, Try.underlying229, (let ⟨I, a, b, _⟩ := info_of inf16; ⟨I, a, b⟩), by kernel_rfl, by kernel_rfl⟩, info_two inf229⟩
theorem ok230 : TI.ok Try.prog 230 ⟨.strct [(0, 0, true)], 0, .agg #[]⟩ := ⟨⟨_, Try.underlying230, by kernel_rfl, by
    intro f hf
    simp only [List.mem_cons, List.not_mem_nil, or_false] at hf
    (first | (rcases hf with rfl) | (obtain rfl := hf)) <;> exact ⟨by kernel_rfl, by kernel_rfl⟩⟩, info_two inf230⟩
theorem ok231 : TI.ok Try.prog 231 ⟨.strct [(0, 0, true)], 0, .agg #[]⟩ := ⟨⟨_, Try.underlying231, by kernel_rfl, by
    intro f hf
    simp only [List.mem_cons, List.not_mem_nil, or_false] at hf
    (first | (rcases hf with rfl) | (obtain rfl := hf)) <;> exact ⟨by kernel_rfl, by kernel_rfl⟩⟩, info_two inf231⟩
theorem ok232 : TI.ok Try.prog 232 ⟨.int .u8, 1, .int .u8 0⟩ := ⟨Try.underlying232, info_two inf232⟩
theorem ok233 : TI.ok Try.prog 233 ⟨.int .u8, 1, .int .u8 0⟩ := ⟨Try.underlying233, info_two inf233⟩
theorem ok234 : TI.ok Try.prog 234 ⟨.func, 1, .nilFunc⟩ := ⟨⟨_, _, _, Try.underlying234⟩, info_two inf234⟩
theorem ok235 : TI.ok Try.prog 235 ⟨.int .i32, 1, .int .i32 0⟩ := ⟨Try.underlying235, info_two inf235⟩
theorem ok236 : TI.ok Try.prog 236 ⟨.int .i32, 1, .int .i32 0⟩ := ⟨Try.underlying236, info_two inf236⟩
theorem ok237 : TI.ok Try.prog 237 ⟨.strct [(0, 1, false), (1, 1, false), (2, 1, false), (3, 1, false), (4, 1, false), (5, 1, false), (6, 1, false), (7, 1, false), (8, 1, false), (9, 1, false), (10, 1, false)], 11, .agg #[.int .u64 0, .int .u64 0, .int .u32 0, .int .u8 0, .int .u8 0, .int .u8 0, .int .u8 0, .nilFunc, .pointer none, .int .i32 0, .int .i32 0]⟩ := ⟨⟨_, Try.underlying237, by kernel_rfl, by
    intro f hf
    simp only [List.mem_cons, List.not_mem_nil, or_false] at hf
    (first | (rcases hf with rfl | rfl | rfl | rfl | rfl | rfl | rfl | rfl | rfl | rfl | rfl) | (obtain rfl := hf)) <;> exact ⟨by kernel_rfl, by kernel_rfl⟩⟩, info_two inf237⟩
theorem ok238 : TI.ok Try.prog 238 ⟨.strct [(0, 1, false), (1, 1, false), (2, 1, false), (3, 1, false), (4, 1, false), (5, 1, false), (6, 1, false), (7, 1, false), (8, 1, false), (9, 1, false), (10, 1, false)], 11, .agg #[.int .u64 0, .int .u64 0, .int .u32 0, .int .u8 0, .int .u8 0, .int .u8 0, .int .u8 0, .nilFunc, .pointer none, .int .i32 0, .int .i32 0]⟩ := ⟨⟨_, Try.underlying238, by kernel_rfl, by
    intro f hf
    simp only [List.mem_cons, List.not_mem_nil, or_false] at hf
    (first | (rcases hf with rfl | rfl | rfl | rfl | rfl | rfl | rfl | rfl | rfl | rfl | rfl) | (obtain rfl := hf)) <;> exact ⟨by kernel_rfl, by kernel_rfl⟩⟩, info_two inf238⟩
set_option maxRecDepth 100000 in
theorem tabP0_ok : TabOk Try.prog tabP0 := by
  intro t i h
  unfold tabP0 at h
  split at h
  · injection h with h; subst h; exact ok1
  · injection h with h; subst h; exact ok2
  · injection h with h; subst h; exact ok3
  · injection h with h; subst h; exact ok4
  · injection h with h; subst h; exact ok5
  · injection h with h; subst h; exact ok6
  · injection h with h; subst h; exact ok7
  · injection h with h; subst h; exact ok8
  · injection h with h; subst h; exact ok9
  · injection h with h; subst h; exact ok10
  · injection h with h; subst h; exact ok11
  · injection h with h; subst h; exact ok12
  · injection h with h; subst h; exact ok13
  · injection h with h; subst h; exact ok14
  · injection h with h; subst h; exact ok15
  · injection h with h; subst h; exact ok16
  · injection h with h; subst h; exact ok17
  · injection h with h; subst h; exact ok18
  · injection h with h; subst h; exact ok19
  · injection h with h; subst h; exact ok20
  · injection h with h; subst h; exact ok21
  · injection h with h; subst h; exact ok22
  · injection h with h; subst h; exact ok23
  · injection h with h; subst h; exact ok24
  · injection h with h; subst h; exact ok25
  · injection h with h; subst h; exact ok26
  · injection h with h; subst h; exact ok27
  · injection h with h; subst h; exact ok28
  · injection h with h; subst h; exact ok30
  · injection h with h; subst h; exact ok31
  · injection h with h; subst h; exact ok32
  · injection h with h; subst h; exact ok34
  · injection h with h; subst h; exact ok35
  · injection h with h; subst h; exact ok37
  · injection h with h; subst h; exact ok38
  · injection h with h; subst h; exact ok40
  · injection h with h; subst h; exact ok42
  · injection h with h; subst h; exact ok43
  · injection h with h; subst h; exact ok44
  · injection h with h; subst h; exact ok45
  · injection h with h; subst h; exact ok46
  · injection h with h; subst h; exact ok47
  · injection h with h; subst h; exact ok48
  · injection h with h; subst h; exact ok49
  · injection h with h; subst h; exact ok51
  · injection h with h; subst h; exact ok52
  · injection h with h; subst h; exact ok53
  · injection h with h; subst h; exact ok55
  · injection h with h; subst h; exact ok56
  · injection h with h; subst h; exact ok57
  · injection h with h; subst h; exact ok58
  · injection h with h; subst h; exact ok59
  · injection h with h; subst h; exact ok60
  · injection h with h; subst h; exact ok62
  · injection h with h; subst h; exact ok63
  · injection h with h; subst h; exact ok64
  · injection h with h; subst h; exact ok66
  · injection h with h; subst h; exact ok67
  · injection h with h; subst h; exact ok68
  · injection h with h; subst h; exact ok69
  · cases h
set_option maxRecDepth 100000 in
theorem tabP1_ok : TabOk Try.prog tabP1 := by
  intro t i h
  unfold tabP1 at h
  split at h
  · injection h with h; subst h; exact ok71
  · injection h with h; subst h; exact ok72
  · injection h with h; subst h; exact ok73
  · injection h with h; subst h; exact ok74
  · injection h with h; subst h; exact ok75
  · injection h with h; subst h; exact ok76
  · injection h with h; subst h; exact ok77
  · injection h with h; subst h; exact ok78
  · injection h with h; subst h; exact ok79
  · injection h with h; subst h; exact ok80
  · injection h with h; subst h; exact ok81
  · injection h with h; subst h; exact ok83
  · injection h with h; subst h; exact ok84
  · injection h with h; subst h; exact ok85
  · injection h with h; subst h; exact ok86
  · injection h with h; subst h; exact ok87
  · injection h with h; subst h; exact ok88
  · injection h with h; subst h; exact ok89
  · injection h with h; subst h; exact ok91
  · injection h with h; subst h; exact ok92
  · injection h with h; subst h; exact ok93
  · injection h with h; subst h; exact ok94
  · injection h with h; subst h; exact ok95
  · injection h with h; subst h; exact ok96
  · injection h with h; subst h; exact ok97
  · injection h with h; subst h; exact ok98
  · injection h with h; subst h; exact ok99
  · injection h with h; subst h; exact ok100
  · injection h with h; subst h; exact ok101
  · injection h with h; subst h; exact ok102
  · injection h with h; subst h; exact ok103
  · injection h with h; subst h; exact ok104
  · injection h with h; subst h; exact ok105
  · injection h with h; subst h; exact ok106
  · injection h with h; subst h; exact ok107
  · injection h with h; subst h; exact ok108
  · injection h with h; subst h; exact ok109
  · injection h with h; subst h; exact ok110
  · injection h with h; subst h; exact ok111
  · injection h with h; subst h; exact ok112
  · injection h with h; subst h; exact ok113
  · injection h with h; subst h; exact ok114
  · injection h with h; subst h; exact ok115
  · injection h with h; subst h; exact ok116
  · injection h with h; subst h; exact ok117
  · injection h with h; subst h; exact ok118
  · injection h with h; subst h; exact ok119
  · injection h with h; subst h; exact ok120
  · injection h with h; subst h; exact ok121
  · injection h with h; subst h; exact ok122
  · injection h with h; subst h; exact ok123
  · injection h with h; subst h; exact ok125
  · injection h with h; subst h; exact ok126
  · injection h with h; subst h; exact ok127
  · injection h with h; subst h; exact ok128
  · injection h with h; subst h; exact ok129
  · injection h with h; subst h; exact ok130
  · injection h with h; subst h; exact ok131
  · injection h with h; subst h; exact ok132
  · injection h with h; subst h; exact ok133
  · cases h
set_option maxRecDepth 100000 in
theorem tabP2_ok : TabOk Try.prog tabP2 := by
  intro t i h
  unfold tabP2 at h
  split at h
  · injection h with h; subst h; exact ok134
  · injection h with h; subst h; exact ok135
  · injection h with h; subst h; exact ok136
  · injection h with h; subst h; exact ok137
  · injection h with h; subst h; exact ok138
  · injection h with h; subst h; exact ok140
  · injection h with h; subst h; exact ok141
  · injection h with h; subst h; exact ok142
  · injection h with h; subst h; exact ok143
  · injection h with h; subst h; exact ok144
  · injection h with h; subst h; exact ok145
  · injection h with h; subst h; exact ok146
  · injection h with h; subst h; exact ok148
  · injection h with h; subst h; exact ok149
  · injection h with h; subst h; exact ok150
  · injection h with h; subst h; exact ok151
  · injection h with h; subst h; exact ok152
  · injection h with h; subst h; exact ok153
  · injection h with h; subst h; exact ok154
  · injection h with h; subst h; exact ok155
  · injection h with h; subst h; exact ok156
  · injection h with h; subst h; exact ok157
  · injection h with h; subst h; exact ok158
  · injection h with h; subst h; exact ok159
  · injection h with h; subst h; exact ok160
  · injection h with h; subst h; exact ok161
  · injection h with h; subst h; exact ok162
  · injection h with h; subst h; exact ok163
  · injection h with h; subst h; exact ok164
  · injection h with h; subst h; exact ok165
  · injection h with h; subst h; exact ok166
  · injection h with h; subst h; exact ok167
  · injection h with h; subst h; exact ok168
  · injection h with h; subst h; exact ok169
  · injection h with h; subst h; exact ok170
  · injection h with h; subst h; exact ok171
  · injection h with h; subst h; exact ok173
  · injection h with h; subst h; exact ok175
  · injection h with h; subst h; exact ok176
  · injection h with h; subst h; exact ok177
  · injection h with h; subst h; exact ok178
  · injection h with h; subst h; exact ok179
  · injection h with h; subst h; exact ok180
  · injection h with h; subst h; exact ok182
  · injection h with h; subst h; exact ok183
  · injection h with h; subst h; exact ok184
  · injection h with h; subst h; exact ok185
  · injection h with h; subst h; exact ok187
  · injection h with h; subst h; exact ok188
  · injection h with h; subst h; exact ok189
  · injection h with h; subst h; exact ok190
  · injection h with h; subst h; exact ok191
  · injection h with h; subst h; exact ok192
  · injection h with h; subst h; exact ok194
  · injection h with h; subst h; exact ok195
  · injection h with h; subst h; exact ok196
  · injection h with h; subst h; exact ok197
  · injection h with h; subst h; exact ok198
  · injection h with h; subst h; exact ok199
  · injection h with h; subst h; exact ok200
  · cases h
set_option maxRecDepth 100000 in
theorem tabP3_ok : TabOk Try.prog tabP3 := by
  intro t i h
  unfold tabP3 at h
  split at h
  · injection h with h; subst h; exact ok201
  · injection h with h; subst h; exact ok202
  · injection h with h; subst h; exact ok203
  · injection h with h; subst h; exact ok204
  · injection h with h; subst h; exact ok205
  · injection h with h; subst h; exact ok206
  · injection h with h; subst h; exact ok207
  · injection h with h; subst h; exact ok208
  · injection h with h; subst h; exact ok209
  · injection h with h; subst h; exact ok210
  · injection h with h; subst h; exact ok211
  · injection h with h; subst h; exact ok212
  · injection h with h; subst h; exact ok213
  · injection h with h; subst h; exact ok214
  · injection h with h; subst h; exact ok215
  · injection h with h; subst h; exact ok216
  · injection h with h; subst h; exact ok218
  · injection h with h; subst h; exact ok219
  · injection h with h; subst h; exact ok220
  · injection h with h; subst h; exact ok221
  · injection h with h; subst h; exact ok222
  · injection h with h; subst h; exact ok223
  · injection h with h; subst h; exact ok224
  · injection h with h; subst h; exact ok225
  · injection h with h; subst h; exact ok226
  · injection h with h; subst h; exact ok227
  · injection h with h; subst h; exact ok228
  · injection h with h; subst h; exact ok229
  · injection h with h; subst h; exact ok230
  · injection h with h; subst h; exact ok231
  · injection h with h; subst h; exact ok232
  · injection h with h; subst h; exact ok233
  · injection h with h; subst h; exact ok234
  · injection h with h; subst h; exact ok235
  · injection h with h; subst h; exact ok236
  · injection h with h; subst h; exact ok237
  · injection h with h; subst h; exact ok238
  · cases h
theorem tab_ok : TabOk Try.prog tab := by
  intro t i h
  unfold tab at h
  split at h
  · exact tabP0_ok t i h
  split at h
  · exact tabP1_ok t i h
  split at h
  · exact tabP2_ok t i h
  exact tabP3_ok t i h
end Go.Proofs.Ytbefijbmgmbphaa
