/- The calculus, continued: operations that neither read nor write memory. -/
import Derived.Test.YtbefijbmgmbphaaE0
import Derived.Laws.Entries
import Derived.Laws.Strings
namespace Go.Proofs.Ytbefijbmgmbphaa
open Go

/-- What is told of a type. -/
inductive TD where
  | bool | int (k : IntKind) | str | flat | iface | func
  | slc (e : TypeId) (sz bytes : Nat) (z : Value)
  | strct (fs : List (Nat × Nat × Bool))
  | arr (n sz : Nat) (agg : Bool)
/-- Is it told cell by cell? -/
def TD.agg : TD → Bool
  | .strct _ | .arr _ _ _ => true
  | _ => false
structure TI where
  d : TD
  size : Nat
  zero : Value
abbrev Tab := TypeId → Option TI
/-- Is a value of this type told cell by cell? -/
def aggOf (P : Program) (t : TypeId) : Bool := match P.underlying t with
  | some (.struct _) | some (.array _ _) => true
  | _ => false
def TD.ok (P : Program) (t : TypeId) : TD → Prop
  | .bool => P.underlying t = some .bool
  | .int k => P.underlying t = some (.int k)
  | .str => P.underlying t = some .string
  | .flat => ∃ d, P.underlying t = some d ∧ (match d with | .struct _ | .array _ _ | .interface _ => false | _ => true) = true
  | .iface => ∃ ms, P.underlying t = some (.interface ms)
  | .func => ∃ a b c, P.underlying t = some (.func a b c)
  | .slc e sz bytes z => P.underlying t = some (.slice e) ∧ ∃ I, P.info? e = some I ∧ I.size = sz ∧ I.bytes = bytes ∧ I.zero = some z
  | .strct fs => ∃ F : Array Field, P.underlying t = some (.struct F) ∧ F.toList.map (fun f => (f.offset, P.cellsOf f.type, aggOf P f.type)) = fs ∧ ∀ f, f ∈ F.toList → (P.info? f.type).isSome = true ∧ (P.underlying f.type).isSome = true
  | .arr n sz g => ∃ e, P.underlying t = some (.array n e) ∧ (∃ I, P.info? e = some I ∧ I.size = sz) ∧ aggOf P e = g ∧ (P.underlying e).isSome = true
def TI.ok (P : Program) (t : TypeId) (i : TI) : Prop := i.d.ok P t ∧ ∃ I, P.info? t = some I ∧ I.zero = some i.zero ∧ I.size = i.size
def TabOk (P : Program) (T : Tab) : Prop := ∀ t i, T t = some i → i.ok P t

/-- A string, as the list of its bytes. -/
def str (l : List UInt8) : Value := .string ⟨⟨l⟩⟩
def sl (s : ByteArray) : List UInt8 := s.data.toList
theorem string_sl (s : ByteArray) : Value.string s = str (sl s) := rfl
theorem string_lit (l : List UInt8) : Value.string ⟨l.toArray⟩ = str l := rfl
theorem string_mk (l : List UInt8) : Value.string ⟨⟨l⟩⟩ = str l := rfl
theorem str_inj {a b : List UInt8} : str a = str b ↔ a = b := by
  constructor
  · intro h; unfold str at h; injection h with h; injection h with h; injection h
  · rintro rfl; rfl
theorem toList_mk (l : List UInt8) : (⟨⟨l⟩⟩ : ByteArray).toList = l := by
  simp [ByteArray.toList_eq]

/-- What an operation on values comes to: a value; a value on a condition; or nothing that is told here. -/
inductive Out where
  | ok (v : Value)
  | need (p : Prop) (v : Value)
  | no
def vR (r : Out) (K : Value → Mem → Prop) (M : Mem) : Prop :=
  match r with
  | .ok v => K v M
  | .need p v => p ∧ K v M
  | .no => False

/-- Whether a type is of the kind that a comparison wants. -/
inductive EqK where
  | bool | slice | iface
def eqD (d : Option TI) (k : EqK) (v : Value) : Out :=
  match d, k with
  | some ⟨.bool, _, _⟩, .bool => .ok v
  | some ⟨.slc _ _ _ _, _, _⟩, .slice => .ok v
  | some ⟨.iface, _, _⟩, .iface => .ok v
  | _, _ => .no
def binR (T : Tab) (op : BinOp) (t : TypeId) (x y : Value) : Out :=
  match op, x, y with
  | .shl, .int k a, .int _ b => .need (0 ≤ b) (.int k (k.wrap (a * 2 ^ (min b.toNat k.bits))))
  | .shr, .int k a, .int _ b => .need (0 ≤ b) (.int k (a.fdiv (2 ^ (min b.toNat k.bits))))
  | .add, .int k a, .int k' b => if k = k' then .ok (.int k (k.wrap (a + b))) else .no
  | .sub, .int k a, .int k' b => if k = k' then .ok (.int k (k.wrap (a - b))) else .no
  | .mul, .int k a, .int k' b => if k = k' then .ok (.int k (k.wrap (a * b))) else .no
  | .quo, .int k a, .int k' b => if k = k' then .need (b ≠ 0) (.int k (k.wrap (a.tdiv b))) else .no
  | .rem, .int k a, .int k' b => if k = k' then .need (b ≠ 0) (.int k (a.tmod b)) else .no
  | .and, .int k a, .int k' b => if k = k' then .ok (.int k (k.wrap (BitVec.ofInt k.bits a &&& BitVec.ofInt k.bits b).toNat)) else .no
  | .or, .int k a, .int k' b => if k = k' then .ok (.int k (k.wrap (BitVec.ofInt k.bits a ||| BitVec.ofInt k.bits b).toNat)) else .no
  | .xor, .int k a, .int k' b => if k = k' then .ok (.int k (k.wrap (BitVec.ofInt k.bits a ^^^ BitVec.ofInt k.bits b).toNat)) else .no
  | .eql, .int k a, .int k' b => if k = k' then .ok (.bool (a == b)) else .no
  | .neq, .int k a, .int k' b => if k = k' then .ok (.bool (a != b)) else .no
  | .lss, .int k a, .int k' b => if k = k' then .ok (.bool (decide (a < b))) else .no
  | .leq, .int k a, .int k' b => if k = k' then .ok (.bool (decide (a ≤ b))) else .no
  | .gtr, .int k a, .int k' b => if k = k' then .ok (.bool (decide (b < a))) else .no
  | .geq, .int k a, .int k' b => if k = k' then .ok (.bool (decide (b ≤ a))) else .no
  | .add, .string a, .string b => .need ((sl a).length + (sl b).length ≤ 9223372036854775807) (str (sl a ++ sl b))
  | .eql, .string a, .string b => .ok (.bool (sl a == sl b))
  | .neq, .string a, .string b => .ok (.bool (!(sl a == sl b)))
  | .lss, .string a, .string b => .ok (.bool (Op.bytesLess (sl a) (sl b)))
  | .leq, .string a, .string b => .ok (.bool (Op.bytesLess (sl a) (sl b) || sl a == sl b))
  | .gtr, .string a, .string b => .ok (.bool (!(Op.bytesLess (sl a) (sl b) || sl a == sl b)))
  | .geq, .string a, .string b => .ok (.bool (!Op.bytesLess (sl a) (sl b)))
  | .eql, .bool a, .bool b => eqD (T t) .bool (.bool (a == b))
  | .neq, .bool a, .bool b => eqD (T t) .bool (.bool (!(a == b)))
  | .eql, .slice a _ _, .slice none _ _ => eqD (T t) .slice (.bool a.isNone)
  | .neq, .slice a _ _, .slice none _ _ => eqD (T t) .slice (.bool (!a.isNone))
  | .eql, .iface _ _, .nilIface => eqD (T t) .iface (.bool false)
  | .neq, .iface _ _, .nilIface => eqD (T t) .iface (.bool true)
  | _, _, _ => .no
def unR (op : UnOp) (x : Value) : Out :=
  match op, x with
  | .neg, .int k n => .ok (.int k (k.wrap (0 - n)))
  | .not, .bool b => .ok (.bool !b)
  | _, _ => .no
/-- Where a slice of something of n elements begins and ends. -/
def loOf : Option Value → Option Int
  | none => some 0
  | some (.int _ i) => some i
  | some _ => none
def hiOf (n : Nat) : Option Value → Option Int
  | none => some n
  | some (.int _ i) => some i
  | some _ => none
/-- Where a slice of a slice begins (at the end of the whole its address does not move). -/
def offAt (o a m sz : Nat) : Nat := if m = a then o else o + a * sz
def sliceD (x : Value) (lo hi mx : Option Value) (d : Option TI) : Out :=
  match x with
  | .string s => match d, loOf lo, hiOf (sl s).length hi, mx with
    | some ⟨.str, _, _⟩, some a, some b, none => .need (0 ≤ a ∧ a ≤ b ∧ b ≤ (sl s).length) (str (((sl s).take b.toNat).drop a.toNat))
    | _, _, _, _ => .no
  | .slice (some ⟨g, o, none⟩) n c => match d, loOf lo, hiOf n hi, mx with
    | some ⟨.slc _ sz _ _, _, _⟩, some a, some b, none => .need (0 ≤ a ∧ a ≤ b ∧ b ≤ n ∧ n ≤ c)
        (.slice (some ⟨g, offAt o a.toNat c sz, none⟩) (b.toNat - a.toNat) (c - a.toNat))
    | some ⟨.slc _ sz _ _, _, _⟩, some a, some b, some (.int _ m) => .need (0 ≤ a ∧ a ≤ b ∧ b ≤ m ∧ m ≤ c ∧ hi ≠ none)
        (.slice (some ⟨g, offAt o a.toNat m.toNat sz, none⟩) (b.toNat - a.toNat) (m.toNat - a.toNat))
    | _, _, _, _ => .no
  | .pointer (some ⟨g, o, none⟩) => match d, loOf lo, mx with
    | some ⟨.arr n sz _, _, _⟩, some a, none => match hiOf n hi with
      | some b => .need (0 ≤ a ∧ a ≤ b ∧ b ≤ n) (.slice (some ⟨g, offAt o a.toNat n sz, none⟩) (b.toNat - a.toNat) (n - a.toNat))
      | none => .no
    | _, _, _ => .no
  | _ => .no
def sliceR (T : Tab) (t : TypeId) (x : Value) (lo hi mx : Option Value) : Out := sliceD x lo hi mx (T t)
def partR (cs : List Value) (off sz : Nat) (agg : Bool) : Option Value :=
  if agg then some (.agg ((cs.drop off).take sz).toArray) else cs[off]?
def idxD (x i : Value) (d : Option TI) : Out :=
  match x, i, d with
  | .string s, .int _ i, some ⟨.str, _, _⟩ => .need (0 ≤ i ∧ i < (sl s).length) (.int .u8 ((sl s).getD i.toNat 0).toNat)
  | .agg cs, .int _ i, some ⟨.arr n sz g, _, _⟩ => match partR cs.toList (i.toNat * sz) sz g with
    | some v => .need (0 ≤ i ∧ i < n) v
    | none => .no
  | _, _, _ => .no
def idxR (T : Tab) (t : TypeId) (x i : Value) : Out := idxD x i (T t)
def idxAddrD (x i : Value) (d : Option TI) : Out :=
  match x, i, d with
  | .slice (some ⟨g, o, none⟩) n _, .int _ i, some ⟨.slc _ sz _ _, _, _⟩ => .need (0 ≤ i ∧ i < n) (.pointer (some ⟨g, o + i.toNat * sz, none⟩))
  | .pointer (some ⟨g, o, none⟩), .int _ i, some ⟨.arr n sz _, _, _⟩ => .need (0 ≤ i ∧ i < n) (.pointer (some ⟨g, o + i.toNat * sz, none⟩))
  | _, _, _ => .no
def idxAddrR (T : Tab) (t : TypeId) (x i : Value) : Out := idxAddrD x i (T t)
def fieldAddrD (x : Value) (f : Nat) (d : Option TI) : Out :=
  match x, d with
  | .pointer (some ⟨g, o, none⟩), some ⟨.strct fs, _, _⟩ => match fs[f]? with
    | some (off, sz, _) => .need (sz ≠ 0) (.pointer (some ⟨g, o + off, none⟩))
    | none => .no
  | _, _ => .no
def fieldAddrR (T : Tab) (t : TypeId) (x : Value) (f : Nat) : Out := fieldAddrD x f (T t)
def fieldD (x : Value) (f : Nat) (d : Option TI) : Out :=
  match x, d with
  | .agg cs, some ⟨.strct fs, _, _⟩ => match fs[f]? with
    | some (off, sz, g) => match partR cs.toList off sz g with
      | some v => .ok v
      | none => .no
    | none => .no
  | _, _ => .no
def fieldR (T : Tab) (t : TypeId) (x : Value) (f : Nat) : Out := fieldD x f (T t)
def convD (x : Value) (s d : Option TI) : Out :=
  match x, s, d with
  | .int _ n, some ⟨.int _, _, _⟩, some ⟨.int k, _, _⟩ => .ok (.int k (k.wrap n))
  | .string x, some ⟨.str, _, _⟩, some ⟨.str, _, _⟩ => .ok (.string x)
  | .int _ n, some ⟨.int _, _, _⟩, some ⟨.str, _, _⟩ => .ok (.string (Utf8.encode n))
  | _, _, _ => .no
def convR (T : Tab) (s d : TypeId) (x : Value) : Out := convD x (T s) (T d)
def outOpt : Option Value → Out
  | some v => .ok v
  | none => .no
def extR (x : Value) (i : Nat) : Out :=
  match x with
  | .tuple vs => outOpt vs[i]?
  | _ => .no
def lenD (x : Value) (d : Option TI) : Out :=
  match x, d with
  | .string s, some ⟨.str, _, _⟩ => .ok (.int .i64 (sl s).length)
  | .slice _ n _, some ⟨.slc _ _ _ _, _, _⟩ => .ok (.int .i64 n)
  | _, some ⟨.arr n _ _, _, _⟩ => .ok (.int .i64 n)
  | _, _ => .no
def lenR (T : Tab) (t : TypeId) (x : Value) : Out := lenD x (T t)
def minR : List Value → Out
  | [.int k x, .int _ y] => .ok (.int k (if y < x then y else x))
  | _ => .no
def maxR : List Value → Out
  | [.int k x, .int _ y] => .ok (.int k (if x < y then y else x))
  | _ => .no
def pickR (c a b : Value) : Out :=
  match c with
  | .bool t => .ok (if t then a else b)
  | _ => .no
def nilR (x : Value) : Out :=
  match x with
  | .pointer (some a) => .ok (.pointer (some a))
  | .func (.func f) x y => .ok (.func (.func f) x y)
  | .slice a n c => .ok (.slice a n c)
  | _ => .no
def ifaceD (t : TypeId) (x : Value) (d : Option TI) : Out :=
  match d with
  | some ⟨.iface, _, _⟩ => .no
  | some _ => .ok (.iface t x)
  | none => .no
def ifaceR (T : Tab) (t : TypeId) (x : Value) : Out := ifaceD t x (T t)
def Out.Is (r : Out) (P : Program) (s : Sem Value) : Prop :=
  match r with
  | .ok v => ∀ w, s.run P w = .ok v w
  | .need p v => p → ∀ w, s.run P w = .ok v w
  | .no => True
set_option linter.unusedSimpArgs false
theorem equalIn_bool (P : Program) {t : TypeId} (h : P.underlying t = some .bool) (n : Nat) (a b : Bool) (w : World) : (Op.equalIn (n + 1) t (.bool a) (.bool b)).run P w = .ok (a == b) w := by
  simp only [Op.equalIn, Sem.run_bind, run_underlying h, Result.andThen_ok, Sem.run_pure]
theorem equalIn_slice (P : Program) {t e : TypeId} (h : P.underlying t = some (.slice e)) (k : Nat) (a : Option Addr) (n c n' c' : Nat) (w : World) : (Op.equalIn (k + 1) t (.slice a n c) (.slice none n' c')).run P w = .ok a.isNone w := by
  cases a <;> simp only [Op.equalIn, Sem.run_bind, run_underlying h, Result.andThen_ok, Sem.run_pure] <;> rfl
theorem equalIn_iface (P : Program) {t : TypeId} {ms : Array (String × TypeId)} (h : P.underlying t = some (.interface ms)) (n : Nat) (d : TypeId) (v : Value) (w : World) : (Op.equalIn (n + 1) t (.iface d v) .nilIface).run P w = .ok false w := by
  simp only [Op.equalIn, Sem.run_bind, run_underlying h, Result.andThen_ok, Sem.run_pure]
theorem equal_bool (P : Program) {t : TypeId} (h : P.underlying t = some .bool) (a b : Bool) (w : World) : (Op.equal t (.bool a) (.bool b)).run P w = .ok (a == b) w := equalIn_bool P h 9999 a b w
theorem equal_slice (P : Program) {t e : TypeId} (h : P.underlying t = some (.slice e)) (a : Option Addr) (n c n' c' : Nat) (w : World) : (Op.equal t (.slice a n c) (.slice none n' c')).run P w = .ok a.isNone w := equalIn_slice P h 9999 a n c n' c' w
theorem equal_iface (P : Program) {t : TypeId} {ms : Array (String × TypeId)} (h : P.underlying t = some (.interface ms)) (d : TypeId) (v : Value) (w : World) : (Op.equal t (.iface d v) .nilIface).run P w = .ok false w := equalIn_iface P h 9999 d v w
def EqK.fits (k : EqK) (d : TD) : Prop :=
  match d, k with
  | .bool, .bool | .slc _ _ _ _, .slice | .iface, .iface => True
  | _, _ => False
theorem eqD_is {P : Program} {s : Sem Value} {d : Option TI} {k : EqK} {v : Value} (h : ∀ i, d = some i → k.fits i.d → ∀ w, s.run P w = .ok v w) : (eqD d k v).Is P s := by
  unfold eqD
  split
  · exact h _ rfl trivial
  · exact h _ rfl trivial
  · exact h _ rfl trivial
  · trivial
theorem bin_is (P : Program) (T : Tab) (hT : TabOk P T) (op : BinOp) (t : TypeId) (x y : Value) : (binR T op t x y).Is P (binOp op t x y) := by
  have hu : ∀ {t : TypeId} {i : TI}, T t = some i → i.d.ok P t := fun h => (hT _ _ h).1
  unfold binR
  split
  all_goals first
    | (refine eqD_is fun i hi hk w => ?_
       have h' := hu hi
       obtain ⟨d, _, _⟩ := i
       cases d <;> (first | exact hk.elim | skip)
       first
         | (simp [binOp, equal_bool P h']; done)
         | (simp [binOp, equal_slice P h'.1]; done)
         | (obtain ⟨_, h'⟩ := h'; simp [binOp, equal_iface P h']; done))
    | skip
  all_goals ((try split) <;> (try trivial) <;> (try simp only [Out.Is]) <;> (try intro hp) <;> (try intro w))
  all_goals (try subst_vars)
  all_goals (first
    | (simp [binOp, Op.intArith, Op.intDiv, Op.intBits, Op.intCmp, Op.shift, hp]; done)
    | (simp [binOp, Op.intArith, Op.intDiv, Op.intBits, Op.intCmp, Op.shift]; done)
    | (simp [binOp, Op.shift, Int.not_lt.2 hp]; done)
    | (simp [binOp, Op.stringOp, sl, ByteArray.toList_eq, str]; done)
    | skip)
  case h_17 =>
    rename_i a b
    have hx : ¬ (((a.size + b.size : Nat) : Int) > IntKind.i64.max) := by
      have h1 : (sl a).length = a.size := rfl
      have h2 : (sl b).length = b.size := rfl
      have h3 : IntKind.i64.max = 9223372036854775807 := rfl
      omega
    have hs : a ++ b = (⟨⟨sl a ++ sl b⟩⟩ : ByteArray) := by
      apply ByteArray.ext
      simp [sl]
    simp only [binOp, Op.stringOp, str, hs, if_neg hx, Sem.run_pure]
theorem un_is (P : Program) (op : UnOp) (x : Value) : (unR op x).Is P (Op.unary op x) := by
  unfold unR
  split <;> simp [Out.Is, Op.unary, Op.intArith]
theorem ext_is (P : Program) (x : Value) (i : Nat) : (extR x i).Is P (Instr.extract x i) := by
  unfold extR
  split
  · rename_i vs
    cases h : vs[i]? with
    | some v => simp [outOpt, Out.Is, Instr.extract, h]
    | none => trivial
  · trivial
theorem conv_is (P : Program) (T : Tab) (hT : TabOk P T) (s d : TypeId) (x : Value) : (convR T s d x).Is P (convert s d x) := by
  have hu : ∀ {t : TypeId} {i : TI}, T t = some i → i.d.ok P t := fun h => (hT _ _ h).1
  unfold convR convD
  split
  · rename_i h1 h2; have h1 := hu h1; have h2 := hu h2; simp only [TD.ok] at h1 h2; simp [Out.Is, convert, run_underlying h1, run_underlying h2, Conv.intToInt]
  · rename_i h1 h2; have h1 := hu h1; have h2 := hu h2; simp only [TD.ok] at h1 h2; simp [Out.Is, convert, run_underlying h1, run_underlying h2]
  · rename_i h1 h2; have h1 := hu h1; have h2 := hu h2; simp only [TD.ok] at h1 h2; simp [Out.Is, convert, run_underlying h1, run_underlying h2, Conv.intToString]
  · trivial
theorem len_is (P : Program) (T : Tab) (hT : TabOk P T) (t r : TypeId) (x : Value) : (lenR T t x).Is P (Builtin.len_ #[t] r #[x]) := by
  have hu : ∀ {t : TypeId} {i : TI}, T t = some i → i.d.ok P t := fun h => (hT _ _ h).1
  unfold lenR lenD
  split
  · rename_i h1; have h1 := hu h1; simp only [TD.ok] at h1; simp [Out.Is, Builtin.len_, run_underlying h1, goInt, sl]
  · rename_i h1; have h1 := (hu h1).1; simp [Out.Is, Builtin.len_, run_underlying h1, goInt]
  · rename_i h1; obtain ⟨e, h1, _⟩ := hu h1; simp [Out.Is, Builtin.len_, run_underlying h1, goInt]
  · trivial
theorem min_is (P : Program) (ts : Array TypeId) (r : TypeId) (l : List Value) : (minR l).Is P (Builtin.min_ ts r l.toArray) := by
  unfold minR
  split
  · simp [Out.Is, Builtin.min_, Builtin.min2]
  · trivial
theorem max_is (P : Program) (ts : Array TypeId) (r : TypeId) (l : List Value) : (maxR l).Is P (Builtin.max_ ts r l.toArray) := by
  unfold maxR
  split
  · simp [Out.Is, Builtin.max_, Builtin.max2]
  · trivial
theorem pick_is (P : Program) (c a b : Value) : (pickR c a b).Is P (do pure (if ← asBool c then a else b)) := by
  unfold pickR
  split
  · simp [Out.Is, asBool]
  · trivial
theorem iface_is (P : Program) (T : Tab) (hT : TabOk P T) (t : TypeId) (x : Value) : (ifaceR T t x).Is P (Instr.makeInterface t x) := by
  have hu : ∀ {t : TypeId} {i : TI}, T t = some i → i.d.ok P t := fun h => (hT _ _ h).1
  unfold ifaceR ifaceD
  split
  · trivial
  · rename_i i h0 h
    intro w
    have h1 := hu h
    obtain ⟨d, s, z⟩ := i
    cases d <;> simp only [TD.ok] at h1
    case iface => exact absurd rfl (h0 s z)
    case flat =>
      obtain ⟨d, h1, h2⟩ := h1
      simp only [Instr.makeInterface, Sem.run_bind, run_underlying h1, Result.andThen_ok]
      cases d <;> first | rfl | cases h2
    case func => obtain ⟨_, _, _, h1⟩ := h1; simp [Instr.makeInterface, run_underlying h1]
    case slc => obtain ⟨h1, _⟩ := h1; simp [Instr.makeInterface, run_underlying h1]
    case strct => obtain ⟨_, h1, _⟩ := h1; simp [Instr.makeInterface, run_underlying h1]
    case arr => obtain ⟨_, h1, _⟩ := h1; simp [Instr.makeInterface, run_underlying h1]
    all_goals simp [Instr.makeInterface, run_underlying h1]
  · trivial
theorem bound_is (P : Program) (k : IntKind) (i : Int) (y : Nat) (c : BoundsCode) (w : World) (h : 0 ≤ i ∧ i ≤ y) : (Instr.sliceBound (.int k i) y c).run P w = .ok i.toNat w := by
  simp [Instr.sliceBound, asIntOf, h]
theorem bounds_is (P : Program) (isS : Bool) (n c : Nat) (lo hi : Option Value) (a b : Int) (ha : loOf lo = some a) (hb : hiOf n hi = some b) (h : 0 ≤ a ∧ a ≤ b ∧ b ≤ n ∧ n ≤ c) (w : World) :
    (Instr.sliceBounds isS n c lo hi none).run P w = .ok (a.toNat, b.toNat, c) w := by
  have h1 : (match hi with | some v => Instr.sliceBound v c (if isS then .sliceAcap else .sliceAlen) | none => pure n : Sem Nat).run P w = .ok b.toNat w := by
    cases hi with
    | none => simp only [hiOf, Option.some.injEq] at hb; subst hb; simp
    | some v =>
      cases v <;> simp only [hiOf, Option.some.injEq, reduceCtorEq] at hb
      subst hb
      exact bound_is P _ _ _ _ w ⟨by omega, by omega⟩
  have h2 : (match lo with | some v => Instr.sliceBound v b.toNat .sliceB | none => pure 0 : Sem Nat).run P w = .ok a.toNat w := by
    cases lo with
    | none => simp only [loOf, Option.some.injEq] at ha; subst ha; simp
    | some v =>
      cases v <;> simp only [loOf, Option.some.injEq, reduceCtorEq] at ha
      subst ha
      exact bound_is P _ _ _ _ w ⟨by omega, by omega⟩
  unfold Instr.sliceBounds
  cases hi with
  | none => cases lo <;> simp_all
  | some v => cases lo <;> simp_all
theorem bounds3_is (P : Program) (n c : Nat) (lo hi : Option Value) (k : IntKind) (a b m : Int) (ha : loOf lo = some a) (hb : hiOf n hi = some b) (h : 0 ≤ a ∧ a ≤ b ∧ b ≤ m ∧ m ≤ c ∧ hi ≠ none) (w : World) :
    (Instr.sliceBounds true n c lo hi (some (.int k m))).run P w = .ok (a.toNat, b.toNat, m.toNat) w := by
  have h0 := bound_is P k m c .slice3Acap w ⟨by omega, by omega⟩
  have h2 : (match lo with | some v => Instr.sliceBound v b.toNat .slice3C | none => pure 0 : Sem Nat).run P w = .ok a.toNat w := by
    cases lo with
    | none => simp only [loOf, Option.some.injEq] at ha; subst ha; simp
    | some v =>
      cases v <;> simp only [loOf, Option.some.injEq, reduceCtorEq] at ha
      subst ha
      exact bound_is P _ _ _ _ w ⟨by omega, by omega⟩
  unfold Instr.sliceBounds
  cases hi with
  | none => exact absurd rfl h.2.2.2.2
  | some v =>
    cases v <;> simp only [hiOf, Option.some.injEq, reduceCtorEq] at hb
    rename_i kb nb
    subst hb
    have h1 := bound_is P kb nb m.toNat .slice3B w ⟨by omega, by omega⟩
    cases lo <;> simp_all
theorem addr_add (g o k : Nat) : (⟨g, o, none⟩ : Addr).add k = ⟨g, o + k, none⟩ := by
  unfold Addr.add
  split
  · rename_i h; subst h; rfl
  · rfl
theorem extract_sl (s : ByteArray) (a b : Nat) : s.extract a b = (⟨⟨((sl s).take b).drop a⟩⟩ : ByteArray) := by
  apply ByteArray.ext
  apply Array.ext'
  simp [sl, ByteArray.data_extract, Array.toList_extract, List.extract_eq_take_drop, List.drop_take]
theorem slice_is (P : Program) (T : Tab) (hT : TabOk P T) (t : TypeId) (x : Value) (lo hi mx : Option Value) : (sliceR T t x lo hi mx).Is P (Instr.sliceAt t x lo hi mx) := by
  have hu : ∀ {t : TypeId} {i : TI}, T t = some i → i.d.ok P t := fun h => (hT _ _ h).1
  unfold sliceR sliceD
  split
  · rename_i s
    split
    · rename_i a b h1 ha hb
      have h1 := hu h1; simp only [TD.ok] at h1
      intro hp w
      have hs : (sl s).length = s.size := rfl
      rw [hs] at hb hp
      simp only [Instr.sliceAt, Instr.slice, Sem.run_bind, run_underlying h1, Result.andThen_ok, Option.isSome_none, Bool.false_eq_true, if_false, bounds_is P false s.size s.size lo hi a b ha hb ⟨hp.1, hp.2.1, hp.2.2, Nat.le_refl _⟩ w, Sem.run_pure, extract_sl, str]
    · trivial
  · split
    · rename_i a b h1 ha hb
      obtain ⟨h1, I, h2, h3, _⟩ := hu h1
      intro hp w
      simp only [Instr.sliceAt, Instr.slice, Sem.run_bind, run_underlying h1, Result.andThen_ok, bounds_is P true _ _ lo hi a b ha hb hp w, Sem.run_pure, sizeOf, typeInfo, run_program, h2, h3, offAt, Option.map_some, addr_add]
      split <;> rfl
    · rename_i a b kk m h1 ha hb
      obtain ⟨h1, I, h2, h3, _⟩ := hu h1
      intro hp w
      simp only [Instr.sliceAt, Instr.slice, Sem.run_bind, run_underlying h1, Result.andThen_ok, bounds3_is P _ _ lo hi _ a b m ha hb hp w, Sem.run_pure, sizeOf, typeInfo, run_program, h2, h3, offAt, Option.map_some, addr_add]
      split <;> rfl
    · trivial
  · split
    · rename_i n sz _ _ _ a h1 ha
      obtain ⟨e, h1, ⟨I, h2, h3⟩, _⟩ := hu h1
      split
      · rename_i b hb
        intro hp w
        simp only [Instr.sliceAt, Sem.run_bind, run_underlying h1, Result.andThen_ok, Instr.sureAddr, bounds_is P false n n lo hi a b ha hb ⟨hp.1, hp.2.1, hp.2.2, Nat.le_refl _⟩ w, Sem.run_pure, sizeOf, typeInfo, run_program, h2, h3, offAt, addr_add]
        split <;> rfl
      · trivial
    · trivial
  · trivial
theorem part_is (P : Program) (t : TypeId) {g : Bool} {off sz : Nat} {cs : Array Value} {v : Value} (hg : aggOf P t = g) (hu : (P.underlying t).isSome = true) {I : TypeInfo} (hI : P.info? t = some I) (hs : I.size = sz)
    (h : partR cs.toList off sz g = some v) (w : World) : (part t cs off).run P w = .ok v w := by
  obtain ⟨d, hd⟩ := Option.isSome_iff_exists.1 hu
  have ha : (isAgg t).run P w = .ok g w := by
    unfold aggOf at hg
    rw [hd] at hg
    subst hg
    simp only [isAgg, Sem.run_bind, run_underlying hd, Result.andThen_ok]
    cases d <;> rfl
  unfold partR at h
  cases g with
  | true =>
    rw [if_pos rfl] at h
    injection h with h
    subst h
    simp only [part, Sem.run_bind, ha, Result.andThen_ok, if_pos, sizeOf, typeInfo, run_program, hI, Sem.run_pure, hs]
    congr 2
    apply Array.ext'
    simp [Array.toList_extract, List.extract_eq_take_drop]
  | false =>
    rw [if_neg (by simp)] at h
    have h' : cs[off]? = some v := by rw [← Array.getElem?_toList]; exact h
    simp only [part, Sem.run_bind, ha, Result.andThen_ok, Bool.false_eq_true, if_false, h', Sem.run_pure]
theorem idx_is (P : Program) (T : Tab) (hT : TabOk P T) (t : TypeId) (x i : Value) : (idxR T t x i).Is P (Instr.index t x i) := by
  have hu : ∀ {t : TypeId} {i : TI}, T t = some i → i.d.ok P t := fun h => (hT _ _ h).1
  unfold idxR idxD
  split
  · rename_i s k i a b h1
    have h1 := hu h1; simp only [TD.ok] at h1
    intro hp w
    have hl : i.toNat < s.size := by have : (sl s).length = s.size := rfl; omega
    have e1 : s[i.toNat]? = some (s[i.toNat]'hl) := by simp [hl]
    have e2 : (sl s).getD i.toNat 0 = s[i.toNat]'hl := by
      unfold sl
      rw [List.getD_eq_getElem?_getD, List.getElem?_eq_getElem (by simpa using hl)]
      rfl
    simp only [Instr.index, asIntOf, Sem.run_bind, Sem.run_pure, run_underlying h1, Result.andThen_ok, if_pos hp.1, e1, e2]
  · split
    · rename_i cs k i n sz g _ _ h1 _ v hv
      obtain ⟨e, h1, ⟨I, h2, h3⟩, h4, h5⟩ := hu h1
      intro hp w
      simp only [Instr.index, asIntOf, Sem.run_bind, Sem.run_pure, run_underlying h1, Result.andThen_ok, if_pos hp, sizeOf, typeInfo, run_program, h2, h3]
      exact part_is P e h4 h5 h2 h3 hv w
    · trivial
  · trivial
theorem idxAddr_is (P : Program) (T : Tab) (hT : TabOk P T) (t : TypeId) (x i : Value) : (idxAddrR T t x i).Is P (Instr.indexAt t x i) := by
  have hu : ∀ {t : TypeId} {i : TI}, T t = some i → i.d.ok P t := fun h => (hT _ _ h).1
  unfold idxAddrR idxAddrD
  split
  · rename_i h1
    obtain ⟨h1, I, h2, h3, _⟩ := hu h1
    intro hp w
    simp [Instr.indexAt, asIntOf, run_underlying h1, hp, sizeOf, typeInfo, h2, h3, Addr.add]
  · rename_i h1
    obtain ⟨e, h1, ⟨I, h2, h3⟩, _⟩ := hu h1
    intro hp w
    simp [Instr.indexAt, asIntOf, run_underlying h1, hp, sizeOf, typeInfo, h2, h3, Instr.sureAddr, Addr.add]
  · trivial
theorem fieldAddr_is (P : Program) (T : Tab) (hT : TabOk P T) (t : TypeId) (x : Value) (f : Nat) : (fieldAddrR T t x f).Is P (Instr.fieldAt t x f) := by
  have hu : ∀ {t : TypeId} {i : TI}, T t = some i → i.d.ok P t := fun h => (hT _ _ h).1
  unfold fieldAddrR fieldAddrD
  split
  · split
    · rename_i h1 _ _ _ _ h4
      obtain ⟨F, h1, h2, h3⟩ := hu h1
      intro hp w
      rw [← h2, List.getElem?_map] at h4
      obtain ⟨fd, hf, he⟩ := Option.map_eq_some_iff.1 h4
      injection he with e1 e2
      injection e2 with e2 e3
      have hf' : F[f]? = some fd := by rw [← Array.getElem?_toList]; exact hf
      have hi := (h3 fd (List.mem_of_getElem? hf)).1
      obtain ⟨I, hI⟩ := Option.isSome_iff_exists.1 hi
      have hs : I.size ≠ 0 := by
        have : P.cellsOf fd.type = I.size := by simp [Program.cellsOf, hI]
        omega
      simp [Instr.fieldAt, run_underlying h1, hf', Instr.sureAddr, fieldPlace, sizeOf, typeInfo, hI, hs, addr_add, e1]
    · trivial
  · trivial
theorem field_is (P : Program) (T : Tab) (hT : TabOk P T) (t : TypeId) (x : Value) (f : Nat) : (fieldR T t x f).Is P (Instr.field t x f) := by
  have hu : ∀ {t : TypeId} {i : TI}, T t = some i → i.d.ok P t := fun h => (hT _ _ h).1
  unfold fieldR fieldD
  split
  · rename_i cs fs _ _ h1
    obtain ⟨F, h1, h2, h3⟩ := hu h1
    split
    · rename_i off sz g h4
      split
      · rename_i v hv
        intro w
        rw [← h2, List.getElem?_map] at h4
        obtain ⟨fd, hf, he⟩ := Option.map_eq_some_iff.1 h4
        injection he with e1 e2
        injection e2 with e2 e3
        have hf' : F[f]? = some fd := by rw [← Array.getElem?_toList]; exact hf
        obtain ⟨hi, hj⟩ := h3 fd (List.mem_of_getElem? hf)
        obtain ⟨I, hI⟩ := Option.isSome_iff_exists.1 hi
        have hs : I.size = sz := by rw [← e2]; simp [Program.cellsOf, hI]
        simp only [Instr.field, Sem.run_bind, run_underlying h1, Result.andThen_ok, hf', asAgg, Sem.run_pure, e1]
        exact part_is P fd.type e3 hj hI hs hv w
      · trivial
    · trivial
  · trivial
end Go.Proofs.Ytbefijbmgmbphaa
