/- The calculus, continued: the rules by which a condition is worked out. -/
import Derived.Test.YtbefijbmgmbphaaE6
namespace Go.Proofs.Ytbefijbmgmbphaa
open Go
set_option linter.unusedSimpArgs false
def resCell (v : Value) (d : Option TI) (M : Mem) : Option Value :=
  match v, d with
  | .pointer (some ⟨b, o, none⟩), some i => if i.d.agg then (M.sub? b o i.size).map (fun l => .agg l.toArray) else M.get? b o
  | _, _ => none
def consO : Option Value → Option (List Value) → Option (List Value)
  | some v, some vs => some (v :: vs)
  | _, _ => none
def buildAt (fs : Nat → Option (Nat × Nat)) (cs : List Value) (rest : List (Nat × Value)) (v : Value) : Option (Nat × Nat) → Option (List Value)
  | some (off, sz) => if v.cells.size = sz ∧ off + sz ≤ cs.length then buildL fs (splice cs off v.cells.toList) rest else none
  | none => none

/-- An equation that the simplifier shall not take for one by computation. -/
theorem nr {α : Sort _} {a b : α} (h : a = b) : a = b := h
attribute [simp] string_lit string_mk put_same
@[simp] theorem nth_zero {α : Type} (a : α) (l : List α) : (a :: l)[0]? = some a := rfl
@[simp] theorem nth_succ {α : Type} (a : α) (l : List α) (i : Nat) : (a :: l)[i + 1]? = l[i]? := rfl

section
variable {P : Program} {T : Tab} {n : Nat} {Q : Exit → Env → Mem → Prop} {env : Env} {M : Mem} {K : Value → Mem → Prop} {ops rest : List Oper}
@[simp] theorem sl_mk (l : List UInt8) : sl ⟨⟨l⟩⟩ = l := nr rfl
@[simp] theorem ev_tmp (t : Tmp) : ev env (.tmp t) = env t := nr rfl
@[simp] theorem ev_const (v : Value) : ev env (.const v) = v := nr rfl
@[simp] theorem ev_global (g : Nat) : ev env (.global g) = .pointer (some ⟨g, 0, none⟩) := nr rfl
@[simp] theorem ev_func (f : FuncId) : ev env (.func f) = .func (.func f) #[] #[] := nr rfl
@[simp] theorem put_at (d t : Nat) (v : Value) : put env (some d) v t = if t = d then v else env t := nr rfl
@[simp] theorem put_no (v : Value) : put env none v = env := nr rfl
def envOf : List Value → Nat → Env
  | [], _ => fun _ => undef
  | v :: l, k => put (envOf l (k + 1)) (some k) v
theorem envOf_at : ∀ (l : List Value) (k t : Nat), envOf l k t = if k ≤ t then l.getD (t - k) undef else undef
  | [], k, t => by simp [envOf]
  | v :: l, k, t => by
    simp only [envOf, put]
    split
    · rename_i h; subst h; simp
    · rename_i h
      rw [envOf_at l (k + 1) t]
      by_cases h1 : k + 1 ≤ t
      · rw [if_pos h1, if_pos (by omega), show t - k = (t - (k + 1)) + 1 by omega]; simp
      · rw [if_neg h1, if_neg (by omega)]
theorem env0_of (args : List Value) : env0 args = envOf args 0 := by
  funext t; rw [envOf_at]; simp [env0]
@[simp] theorem envOf_nil (k t : Nat) : envOf [] k t = undef := nr rfl
@[simp] theorem envOf_cons (v : Value) (l : List Value) (k : Nat) : envOf (v :: l) k = put (envOf l (k + 1)) (some k) v := nr rfl
/-- The way into a function, its frame written out. -/
theorem does_fn {P : Program} {T : Tab} (hT : TabOk P T) {f : FuncId} {fn : Func} {c : Code} (hf : P.funcs[f]? = some fn) (hb : fn.body = some c) (hn : (fn.name == "runtime.NumGoroutine") = false) (hi : codeIn fn.ntmps c = true)
    {n : Nat} {rs : List ResultVar} (hnt : fn.ntmps = n) (hrs : fn.results = rs.toArray) {args : List Value} {R : Value → Mem → Prop} {M : Mem} (ha : Nat.ble args.length n = true) (h : vc P T n c (doneQ T rs R) (envOf args 0) M) : Does P f args M R := by
  subst hnt
  refine does_of hT hf hb hn hi (Nat.le_of_ble_eq_true ha) ?_
  rw [hrs, env0_of]
  exact h
@[simp] theorem mrg_at (A : List Nat) (g : Env) (t : Nat) : mrg A g env t = if A.contains t then g t else env t := nr rfl
@[simp] theorem sets_nil : sets env [] = env := nr rfl
@[simp] theorem sets_cons (d : Nat) (v : Value) (l : List (Nat × Value)) : sets env ((d, v) :: l) = put (sets env l) (some d) v := nr rfl
@[simp] theorem agrees_nil : agrees env [] = True := nr rfl
@[simp] theorem agrees_cons (d : Nat) (v : Value) (l : List (Nat × Value)) : agrees env ((d, v) :: l) = (env d = v ∧ agrees env l) := nr rfl
theorem keeps_put {A : List Nat} {e : Env} {d : Nat} (v : Value) (h : A.contains d = true) : Keeps A env (put e (some d) v) = Keeps A env e := by
  apply propext
  constructor
  · intro hk t ht; have := hk t ht; rw [put_at, if_neg (by rintro rfl; rw [h] at ht; cases ht)] at this; exact this
  · intro hk t ht; rw [put_at, if_neg (by rintro rfl; rw [h] at ht; cases ht)]; exact hk t ht
theorem keeps_mrg {A : List Nat} {g : Env} : Keeps A env (mrg A g env) = True := by
  apply eq_true; intro t ht; unfold mrg; rw [ht]; rfl
theorem keeps_mrg' {A B : List Nat} {g e : Env} (h : B.all (A.contains ·) = true) : Keeps A env (mrg B g e) = Keeps A env e := by
  have hh : ∀ t, A.contains t = false → B.contains t = false := by
    intro t ht
    cases hb : B.contains t with
    | false => rfl
    | true =>
      rw [List.all_eq_true] at h
      have := h t (by simpa using hb)
      rw [this] at ht; cases ht
  apply propext
  constructor
  · intro hk t ht; have := hk t ht; simp only [mrg, hh t ht] at this; simpa using this
  · intro hk t ht; simp only [mrg, hh t ht]; simpa using hk t ht
theorem kp {A : List Nat} {e : Env} {d : Nat} {v : Value} (h : A.contains d = true) (hk : Keeps A env e) : Keeps A env (put e (some d) v) := by rw [keeps_put v h]; exact hk
theorem km {A : List Nat} {g : Env} : Keeps A env (mrg A g env) := by rw [keeps_mrg]; trivial
theorem km' {A B : List Nat} {g e : Env} (h : B.all (A.contains ·) = true) (hk : Keeps A env e) : Keeps A env (mrg B g e) := by rw [keeps_mrg' h]; exact hk
-- code
@[simp] theorem vc_skip : vc P T n .skip Q env M = Q .normal env M := nr rfl
@[simp] theorem vc_region {id : Nat} {l : List Oper} : vc P T n (.region id l.toArray false) Q env M = vOps P T l Q l env M := nr rfl
@[simp] theorem vc_seq {a b : Code} : vc P T n (.seq a b) Q env M = vc P T n a (thenQ (vc P T n b Q) Q) env M := nr rfl
@[simp] theorem vc_cond {c : Operand} {a b : Code} : vc P T n (.cond c a b) Q env M = vIf (ev env c) (vc P T n a Q) (vc P T n b Q) env M := nr rfl
@[simp] theorem vc_block {id : Nat} {c : Code} : vc P T n (.block id c) Q env M = vc P T n c (inBlk id Q) env M := nr rfl
@[simp] theorem vc_loop {c : Code} : vc P T n (.loop c) Q env M = CodeTo P n (.loop c) Q env M := nr rfl
@[simp] theorem vc_ret : vc P T n .ret Q env M = Q .ret env M := nr rfl
@[simp] theorem vc_exit {id : Nat} : vc P T n (.exit id) Q env M = Q (.exit id) env M := nr rfl
@[simp] theorem thenQ_n {A : Env → Mem → Prop} : thenQ A Q .normal env M = A env M := nr rfl
@[simp] theorem thenQ_r {A : Env → Mem → Prop} : thenQ A Q .ret env M = Q .ret env M := nr rfl
@[simp] theorem thenQ_e {A : Env → Mem → Prop} {i : Nat} : thenQ A Q (.exit i) env M = Q (.exit i) env M := nr rfl
@[simp] theorem inBlk_n {i : Nat} : inBlk i Q .normal env M = Q .normal env M := nr rfl
@[simp] theorem inBlk_r {i : Nat} : inBlk i Q .ret env M = Q .ret env M := nr rfl
@[simp] theorem inBlk_e {i j : Nat} : inBlk i Q (.exit j) env M = if j = i then Q .normal env M else Q (.exit j) env M := nr rfl
@[simp] theorem doneQ_n {rs : List ResultVar} : doneQ T rs K .normal env M = vDone (resAll T env M rs) K M := nr rfl
@[simp] theorem doneQ_r {rs : List ResultVar} : doneQ T rs K .ret env M = vDone (resAll T env M rs) K M := nr rfl
@[simp] theorem resAll_nil : resAll T env M [] = some [] := nr rfl
@[simp] theorem resAll_tmp {t : Tmp} {rs : List ResultVar} : resAll T env M (.tmp t :: rs) = (resAll T env M rs).map (env t :: ·) := by
  simp only [resAll, resOne]; cases resAll T env M rs <;> rfl
@[simp] theorem resAll_cell {a : Tmp} {t : TypeId} {rs : List ResultVar} : resAll T env M (.cell a t :: rs) = consO (resCell (env a) (T t) M) (resAll T env M rs) := by
  have e1 : resOne T env M (.cell a t) = resCell (env a) (T t) M := rfl
  conv => lhs; unfold resAll
  rw [e1]
  cases resCell (env a) (T t) M <;> cases resAll T env M rs <;> rfl
@[simp] theorem resCell_at {b o : Nat} {i : TI} : resCell (.pointer (some ⟨b, o, none⟩)) (some i) M = if i.d.agg then (M.sub? b o i.size).map (fun l => .agg l.toArray) else M.get? b o := nr rfl
@[simp] theorem consO_some {v : Value} {vs : List Value} : consO (some v) (some vs) = some (v :: vs) := nr rfl
@[simp] theorem vDone_some {vs : List Value} : vDone (some vs) K M = vRet K (resV vs) M := nr rfl
@[simp] theorem resV_one {v : Value} : resV [v] = v := nr rfl
@[simp] theorem resV_two {a b : Value} {l : List Value} : resV (a :: b :: l) = .tuple (a :: b :: l).toArray := nr rfl
@[simp] theorem resV_nil : resV [] = .tuple #[] := nr rfl
-- branches
theorem vIf_split {t : Bool} {A B : Env → Mem → Prop} (h1 : t = true → A env M) (h2 : t = false → B env M) : vIf (.bool t) A B env M := ⟨h1, h2⟩
@[simp] theorem vIf_t {A B : Env → Mem → Prop} : vIf (.bool true) A B env M = A env M := by simp [vIf]
@[simp] theorem vIf_f {A B : Env → Mem → Prop} : vIf (.bool false) A B env M = B env M := by simp [vIf]
@[simp] theorem vIf_not {t : Bool} {A B : Env → Mem → Prop} : vIf (.bool (!t)) A B env M = vIf (.bool t) B A env M := by cases t <;> simp [vIf]
theorem vIf_dt {p : Prop} [Decidable p] {A B : Env → Mem → Prop} (h : p) : vIf (.bool (decide p)) A B env M = A env M := by simp [vIf, h]
theorem vIf_df {p : Prop} [Decidable p] {A B : Env → Mem → Prop} (h : ¬ p) : vIf (.bool (decide p)) A B env M = B env M := by simp [vIf, h]
attribute [simp] vIf_dt vIf_df
@[simp] theorem vIf_eq {a b : Int} {A B : Env → Mem → Prop} (h : a = b) : vIf (.bool (a == b)) A B env M = A env M := by simp [vIf, h]
@[simp] theorem vIf_neq {a b : Int} {A B : Env → Mem → Prop} (h : ¬ a = b) : vIf (.bool (a == b)) A B env M = B env M := by simp [vIf, h]
@[simp] theorem vIf_eqN {a b : Nat} {A B : Env → Mem → Prop} (h : a = b) : vIf (.bool (a == b)) A B env M = A env M := by simp [vIf, h]
@[simp] theorem vIf_neqN {a b : Nat} {A B : Env → Mem → Prop} (h : ¬ a = b) : vIf (.bool (a == b)) A B env M = B env M := by simp [vIf, h]
@[simp] theorem vIf_bneN {a b : Nat} {A B : Env → Mem → Prop} : vIf (.bool (a != b)) A B env M = vIf (.bool (a == b)) B A env M := by
  have : (a != b) = !(a == b) := rfl
  rw [this, vIf_not]
@[simp] theorem vIf_bne {a b : Int} {A B : Env → Mem → Prop} : vIf (.bool (a != b)) A B env M = vIf (.bool (a == b)) B A env M := by
  have : (a != b) = !(a == b) := rfl
  rw [this, vIf_not]
-- operations
@[simp] theorem vOps_nil : vOps P T ops Q [] env M = Q .normal env M := nr rfl
@[simp] theorem vOps_plain {d : Option Tmp} {o : Op} {ty : TypeId} {pos : String} {af : Array Edge} : vOps P T ops Q (⟨d, o, ty, pos, af, none⟩ :: rest) env M = vOp P T o env (Kt (vOps P T ops Q rest) env d) M := nr rfl
@[simp] theorem vOps_guard {d : Option Tmp} {o : Op} {ty : TypeId} {pos : String} {af : Array Edge} {j : Nat} {b : Bool} : vOps P T ops Q (⟨d, o, ty, pos, af, some (j, b)⟩ :: rest) env M = vGd (yE ops env j) b (gA P T o d (vOps P T ops Q rest)) (gB d (vOps P T ops Q rest)) env M := nr rfl
@[simp] theorem Kt_at {r : Env → Mem → Prop} {d : Option Tmp} {v : Value} : Kt r env d v M = r (put env d v) M := nr rfl
@[simp] theorem gA_at {o : Op} {d : Option Tmp} {r : Env → Mem → Prop} : gA P T o d r env M = vOp P T o env (Kt r env d) M := nr rfl
@[simp] theorem gB_at {d : Option Tmp} {r : Env → Mem → Prop} : gB d r env M = r (put env d undef) M := nr rfl
theorem vGd_split {t : Option Bool} {b : Bool} {A B : Env → Mem → Prop} (h1 : t = some b → A env M) (h2 : t ≠ some b → B env M) : vGd t b A B env M := ⟨h1, h2⟩
@[simp] theorem vGd_tt {A B : Env → Mem → Prop} : vGd (some true) true A B env M = A env M := by simp [vGd]
@[simp] theorem vGd_tf {A B : Env → Mem → Prop} : vGd (some true) false A B env M = B env M := by simp [vGd]
@[simp] theorem vGd_ft {A B : Env → Mem → Prop} : vGd (some false) true A B env M = B env M := by simp [vGd]
@[simp] theorem vGd_ff {A B : Env → Mem → Prop} : vGd (some false) false A B env M = A env M := by simp [vGd]
@[simp] theorem vGd_none {b : Bool} {A B : Env → Mem → Prop} : vGd none b A B env M = B env M := by simp [vGd]
@[simp] theorem vGd_if {t : Bool} {A B : Env → Mem → Prop} : vGd (some t) true A B env M = vIf (.bool t) A B env M := by cases t <;> simp
@[simp] theorem vGd_if' {t : Bool} {A B : Env → Mem → Prop} : vGd (some t) false A B env M = vIf (.bool t) B A env M := by cases t <;> simp
@[simp] theorem yE_at {j : Nat} : yE ops env j = match (ops[j]?).bind (·.dst) with
  | some d => match env d with
    | .bool b => some b
    | _ => none
  | none => none := nr rfl
@[simp] theorem vR_ok {v : Value} : vR (.ok v) K M = K v M := nr rfl
@[simp] theorem vR_need {p : Prop} {v : Value} : vR (.need p v) K M = vBd p K v M := nr rfl
@[simp] theorem vR_no : vR .no K M = False := nr rfl
@[simp] theorem vBd_t {p : Prop} {v : Value} (h : p) : vBd p K v M = K v M := by simp [vBd, h]
@[simp] theorem vThen_true {q : Prop} : vThen True q = q := by simp [vThen]
@[simp] theorem vBd_true {v : Value} : vBd True K v M = K v M := by simp [vBd]
@[simp] theorem vThen_t {p q : Prop} (h : p) : vThen p q = q := by simp [vThen, h]
@[simp] theorem vOp_move {x : Operand} : vOp P T (.move x) env K M = K (ev env x) M := nr rfl
@[simp] theorem vOp_assign {x : Operand} : vOp P T (.assign x) env K M = K (ev env x) M := nr rfl
@[simp] theorem vOp_pick {c a b : Operand} : vOp P T (.pick c a b) env K M = vR (pickR (ev env c) (ev env a) (ev env b)) K M := nr rfl
@[simp] theorem vOp_alloc {e : TypeId} : vOp P T (.alloc e) env K M = vAlloc T e K M := nr rfl
@[simp] theorem vOp_box {e : TypeId} {x : Operand} : vOp P T (.box e x) env K M = vBox (ev env x) K M := nr rfl
@[simp] theorem vOp_build {t : TypeId} {ps : List (Nat × Operand)} : vOp P T (.build t ps.toArray) env K M = vR (buildR T t (ps.map fun p => (p.1, ev env p.2))) K M := nr rfl
@[simp] theorem vOp_buildS {t : TypeId} {k : Nat} {ps : List (Nat × Operand)} : vOp P T (.buildSlice t k ps.toArray) env K M = vBuildS T t k (ps.map fun p => (p.1, ev env p.2)) K M := nr rfl
@[simp] theorem vOp_load {t : TypeId} {x : Operand} : vOp P T (.load t x) env K M = vLoad T t (ev env x) K M := nr rfl
@[simp] theorem vOp_store {t : TypeId} {x v : Operand} : vOp P T (.store t x v) env K M = vStore T t (ev env x) (ev env v) K M := nr rfl
@[simp] theorem vOp_nil {x : Operand} : vOp P T (.nilCheck x) env K M = vR (nilR (ev env x)) K M := nr rfl
@[simp] theorem vOp_bin {op : BinOp} {t t' : TypeId} {x y : Operand} : vOp P T (.binOp op t x y t') env K M = vR (binR T op t (ev env x) (ev env y)) K M := nr rfl
@[simp] theorem vOp_un {op : UnOp} {t : TypeId} {x : Operand} : vOp P T (.unOp op t x) env K M = vR (unR op (ev env x)) K M := nr rfl
@[simp] theorem vOp_conv {s d : TypeId} {x : Operand} : vOp P T (.convert s d x) env K M = vConv T s d (ev env x) K M := nr rfl
@[simp] theorem vOp_iface {t : TypeId} {x : Operand} : vOp P T (.makeInterface t x) env K M = vR (ifaceR T t (ev env x)) K M := nr rfl
@[simp] theorem vOp_fn {fn : Fn} {a b : List Operand} : vOp P T (.makeFunc fn a.toArray b.toArray) env K M = K (.func fn (a.map (ev env)).toArray (b.map (ev env)).toArray) M := nr rfl
@[simp] theorem vOp_make {t : TypeId} {l c : Operand} : vOp P T (.makeSlice t l c) env K M = vMake T t (ev env l) (ev env c) K M := nr rfl
@[simp] theorem vOp_slice {t : TypeId} {x : Operand} {lo hi mx : Option Operand} : vOp P T (.slice t x lo hi mx) env K M = vR (sliceR T t (ev env x) (lo.map (ev env)) (hi.map (ev env)) (mx.map (ev env))) K M := nr rfl
@[simp] theorem vOp_fieldAddr {t : TypeId} {x : Operand} {f : Nat} : vOp P T (.fieldAddr t x f) env K M = vR (fieldAddrR T t (ev env x) f) K M := nr rfl
@[simp] theorem vOp_field {t : TypeId} {x : Operand} {f : Nat} : vOp P T (.field t x f) env K M = vR (fieldR T t (ev env x) f) K M := nr rfl
@[simp] theorem vOp_idxAddr {t : TypeId} {x i : Operand} : vOp P T (.indexAddr t x i) env K M = vR (idxAddrR T t (ev env x) (ev env i)) K M := nr rfl
@[simp] theorem vOp_idx {t : TypeId} {x i : Operand} : vOp P T (.index t x i) env K M = vR (idxR T t (ev env x) (ev env i)) K M := nr rfl
@[simp] theorem vOp_ext {x : Operand} {i : Nat} : vOp P T (.extract x i) env K M = vR (extR (ev env x) i) K M := nr rfl
@[simp] theorem vOp_call {f : Operand} {l : List Operand} {ts : Array TypeId} : vOp P T (.call ⟨.value f, l.toArray, ts⟩) env K M = vCallV P (ev env f) (l.map (ev env)) K M := nr rfl
@[simp] theorem vOp_builtin {b : Builtin} {l : List Operand} {ts : List TypeId} : vOp P T (.call ⟨.builtin b, l.toArray, ts.toArray⟩) env K M = vBuiltin T b ts (l.map (ev env)) K M := nr rfl
@[simp] theorem vCallV_at {g : FuncId} {a c args : List Value} : vCallV P (.func (.func g) a.toArray c.toArray) args K M = Does P g (a ++ args ++ c) M K := nr rfl
@[simp] theorem vLen {t : TypeId} {x : Value} : vBuiltin T .len [t] [x] K M = vR (lenR T t x) K M := nr rfl
@[simp] theorem vAppend {ts : List TypeId} {s x : Value} : vBuiltin T .append ts [s, x] K M = vApp T ts s x K M := nr rfl
@[simp] theorem vMin {ts : List TypeId} {a b : Value} : vBuiltin T .min ts [a, b] K M = vR (minR [a, b]) K M := nr rfl
@[simp] theorem vClear_b {t : TypeId} {x : Value} : vBuiltin T .clear [t] [x] K M = vClr T t x K M := nr rfl
@[simp] theorem vClr_D {t : TypeId} {x : Value} : vClr T t x K M = vClrD (T t) x K M := nr rfl
@[simp] theorem vClrD_none {e : TypeId} {bytes s n c : Nat} {z zz : Value} : vClrD (some ⟨.slc e 1 bytes z, s, zz⟩) (.slice none n c) K M = K (.tuple #[]) M := nr rfl
theorem vClrD_at {e : TypeId} {bytes s b o n c : Nat} {z zz : Value} {xs : List Value} {tot : Nat} (hM : M b = some (.cells true xs tot)) (h1 : o + n ≤ xs.length) (hz : flatV z = true) : (vClrD (some ⟨.slc e 1 bytes z, s, zz⟩) (.slice (some ⟨b, o, none⟩) n c) K M) = K (.tuple #[]) (if n = 0 then M else M.set b (.cells true (xs.take o ++ List.replicate n z ++ xs.drop (o + n)) tot)) := by
  cases n with
  | zero => rfl
  | succ n =>
    show vClrB (M b) b o (n + 1) z K M = _
    rw [hM, if_neg (by omega)]
    exact propext ⟨fun h => h.2, fun h => ⟨⟨h1, hz⟩, h⟩⟩
@[simp] theorem vMax {ts : List TypeId} {a b : Value} : vBuiltin T .max ts [a, b] K M = vR (maxR [a, b]) K M := nr rfl
@[simp] theorem pick_at {t : Bool} {a b : Value} : pickR (.bool t) a b = .ok (if t then a else b) := nr rfl
@[simp] theorem un_not {t : Bool} : unR .not (.bool t) = .ok (.bool !t) := nr rfl
@[simp] theorem un_neg {k : IntKind} {a : Int} : unR .neg (.int k a) = .ok (.int k (k.wrap (0 - a))) := nr rfl
@[simp] theorem outOpt_some {v : Value} : outOpt (some v) = .ok v := nr rfl
@[simp] theorem ext_at {vs : List Value} {i : Nat} : extR (.tuple vs.toArray) i = outOpt vs[i]? := by
  unfold extR
  dsimp only
  rw [List.getElem?_toArray]
end
section
variable {T : Tab} {t : TypeId} {k : IntKind} {a b : Int}
@[simp] theorem bin_add : binR T .add t (.int k a) (.int k b) = .ok (.int k (k.wrap (a + b))) := by simp [binR]
@[simp] theorem bin_sub : binR T .sub t (.int k a) (.int k b) = .ok (.int k (k.wrap (a - b))) := by simp [binR]
@[simp] theorem bin_mul : binR T .mul t (.int k a) (.int k b) = .ok (.int k (k.wrap (a * b))) := by simp [binR]
@[simp] theorem bin_quo : binR T .quo t (.int k a) (.int k b) = .need (b ≠ 0) (.int k (k.wrap (a.tdiv b))) := by simp [binR]
@[simp] theorem bin_rem : binR T .rem t (.int k a) (.int k b) = .need (b ≠ 0) (.int k (a.tmod b)) := by simp [binR]
@[simp] theorem bin_eql : binR T .eql t (.int k a) (.int k b) = .ok (.bool (a == b)) := by simp [binR]
@[simp] theorem bin_neq : binR T .neq t (.int k a) (.int k b) = .ok (.bool (a != b)) := by simp [binR]
@[simp] theorem bin_lss : binR T .lss t (.int k a) (.int k b) = .ok (.bool (decide (a < b))) := by simp [binR]
@[simp] theorem bin_leq : binR T .leq t (.int k a) (.int k b) = .ok (.bool (decide (a ≤ b))) := by simp [binR]
@[simp] theorem bin_gtr : binR T .gtr t (.int k a) (.int k b) = .ok (.bool (decide (b < a))) := by simp [binR]
@[simp] theorem bin_geq : binR T .geq t (.int k a) (.int k b) = .ok (.bool (decide (b ≤ a))) := by simp [binR]
@[simp] theorem bin_sadd {x y : List UInt8} : binR T .add t (str x) (str y) = .need (x.length + y.length ≤ 9223372036854775807) (str (x ++ y)) := nr rfl
@[simp] theorem bin_seql {x y : List UInt8} : binR T .eql t (str x) (str y) = .ok (.bool (x == y)) := nr rfl
@[simp] theorem bin_sneq {x y : List UInt8} : binR T .neq t (str x) (str y) = .ok (.bool (!(x == y))) := nr rfl
@[simp] theorem bin_slss {x y : List UInt8} : binR T .lss t (str x) (str y) = .ok (.bool (Op.bytesLess x y)) := nr rfl
@[simp] theorem bin_sleq {x y : List UInt8} : binR T .leq t (str x) (str y) = .ok (.bool (Op.bytesLess x y || x == y)) := nr rfl
@[simp] theorem bin_sgtr {x y : List UInt8} : binR T .gtr t (str x) (str y) = .ok (.bool (!(Op.bytesLess x y || x == y))) := nr rfl
@[simp] theorem bin_sgeq {x y : List UInt8} : binR T .geq t (str x) (str y) = .ok (.bool (!Op.bytesLess x y)) := nr rfl
theorem wrap64_eq {x : Int} (h1 : -9223372036854775808 ≤ x) (h2 : x ≤ 9223372036854775807) : IntKind.i64.wrap x = x := by
  simp [IntKind.wrap, IntKind.bits, IntKind.signed]; omega
@[simp] theorem wrap_add {x y : Int} (h : -9223372036854775808 ≤ x + y ∧ x + y ≤ 9223372036854775807) : IntKind.i64.wrap (x + y) = x + y := wrap64_eq h.1 h.2
@[simp] theorem wrap_sub {x y : Int} (h : -9223372036854775808 ≤ x - y ∧ x - y ≤ 9223372036854775807) : IntKind.i64.wrap (x - y) = x - y := wrap64_eq h.1 h.2
@[simp] theorem wrap_mul {x y : Int} (h : -9223372036854775808 ≤ x * y ∧ x * y ≤ 9223372036854775807) : IntKind.i64.wrap (x * y) = x * y := wrap64_eq h.1 h.2
@[simp] theorem wrap_u8 {x : Int} (h : 0 ≤ x ∧ x ≤ 255) : IntKind.u8.wrap x = x := by
  simp [IntKind.wrap, IntKind.bits, IntKind.signed]; omega
@[simp] theorem wrap_var {x : Int} (h : -9223372036854775808 ≤ x ∧ x ≤ 9223372036854775807) : IntKind.i64.wrap x = x := wrap64_eq h.1 h.2
end

/-! ### Operations that look a type up -/
section
variable {T : Tab} {t : TypeId} {K : Value → Mem → Prop} {M : Mem} {k k' : IntKind} {sz s bytes g o c n : Nat} {z zz v : Value} {e : TypeId} {i : Int}
@[simp] theorem agg_bool : TD.agg .bool = false := nr rfl
@[simp] theorem agg_int : TD.agg (.int k) = false := nr rfl
@[simp] theorem agg_str : TD.agg .str = false := nr rfl
@[simp] theorem agg_flat : TD.agg .flat = false := nr rfl
@[simp] theorem agg_iface : TD.agg .iface = false := nr rfl
@[simp] theorem agg_func : TD.agg .func = false := nr rfl
@[simp] theorem agg_slc : TD.agg (.slc e sz bytes z) = false := nr rfl
@[simp] theorem agg_strct {fs : List (Nat × Nat × Bool)} : TD.agg (.strct fs) = true := nr rfl
@[simp] theorem agg_arr {b : Bool} : TD.agg (.arr n sz b) = true := nr rfl
@[simp] theorem flat_int : flatV (.int k i) = true := nr rfl
@[simp] theorem flat_bool {b : Bool} : flatV (.bool b) = true := nr rfl
@[simp] theorem flat_str {l : List UInt8} : flatV (str l) = true := nr rfl
@[simp] theorem flat_slice {a : Option Addr} : flatV (.slice a n c) = true := nr rfl
@[simp] theorem flat_ptr {a : Option Addr} : flatV (.pointer a) = true := nr rfl
@[simp] theorem flat_func {f : Fn} {a b : Array Value} : flatV (.func f a b) = true := nr rfl
@[simp] theorem flat_nilF : flatV .nilFunc = true := nr rfl
@[simp] theorem eqD_bool : eqD (some ⟨.bool, s, z⟩) .bool v = .ok v := nr rfl
@[simp] theorem eqD_slice : eqD (some ⟨.slc e sz bytes z, s, zz⟩) .slice v = .ok v := nr rfl
@[simp] theorem eqD_iface : eqD (some ⟨.iface, s, z⟩) .iface v = .ok v := nr rfl
@[simp] theorem bin_beql {a b : Bool} : binR T .eql t (.bool a) (.bool b) = eqD (T t) .bool (.bool (a == b)) := nr rfl
@[simp] theorem bin_bneq {a b : Bool} : binR T .neq t (.bool a) (.bool b) = eqD (T t) .bool (.bool (!(a == b))) := nr rfl
@[simp] theorem bin_seqnil {a : Option Addr} {n' c' : Nat} : binR T .eql t (.slice a n c) (.slice none n' c') = eqD (T t) .slice (.bool a.isNone) := nr rfl
@[simp] theorem bin_snenil {a : Option Addr} {n' c' : Nat} : binR T .neq t (.slice a n c) (.slice none n' c') = eqD (T t) .slice (.bool (!a.isNone)) := nr rfl
@[simp] theorem bin_ieqnil : binR T .eql t (.iface e v) .nilIface = eqD (T t) .iface (.bool false) := nr rfl
@[simp] theorem bin_inenil : binR T .neq t (.iface e v) .nilIface = eqD (T t) .iface (.bool true) := nr rfl
@[simp] theorem bin_shl {a b : Int} : binR T .shl t (.int k a) (.int k' b) = .need (0 ≤ b) (.int k (k.wrap (a * 2 ^ (min b.toNat k.bits)))) := nr rfl
@[simp] theorem bin_shr {a b : Int} : binR T .shr t (.int k a) (.int k' b) = .need (0 ≤ b) (.int k (a.fdiv (2 ^ (min b.toNat k.bits)))) := nr rfl
@[simp] theorem bin_and {a b : Int} : binR T .and t (.int k a) (.int k b) = .ok (.int k (k.wrap (BitVec.ofInt k.bits a &&& BitVec.ofInt k.bits b).toNat)) := by simp [binR]
@[simp] theorem bin_or {a b : Int} : binR T .or t (.int k a) (.int k b) = .ok (.int k (k.wrap (BitVec.ofInt k.bits a ||| BitVec.ofInt k.bits b).toNat)) := by simp [binR]
@[simp] theorem bin_xor {a b : Int} : binR T .xor t (.int k a) (.int k b) = .ok (.int k (k.wrap (BitVec.ofInt k.bits a ^^^ BitVec.ofInt k.bits b).toNat)) := by simp [binR]
@[simp] theorem lo_none : loOf none = some 0 := nr rfl
@[simp] theorem lo_some : loOf (some (.int k i)) = some i := nr rfl
@[simp] theorem hi_none : hiOf n none = some (n : Int) := nr rfl
@[simp] theorem hi_some : hiOf n (some (.int k i)) = some i := nr rfl
@[simp] theorem sliceR_D {x : Value} {lo hi mx : Option Value} : sliceR T t x lo hi mx = sliceD x lo hi mx (T t) := nr rfl
@[simp] theorem slice_str {l : List UInt8} {lo hi : Option Value} : sliceD (str l) lo hi none (some ⟨.str, s, z⟩) = match loOf lo, hiOf l.length hi with
  | some a, some b => .need (0 ≤ a ∧ a ≤ b ∧ b ≤ l.length) (str ((l.take b.toNat).drop a.toNat))
  | _, _ => .no := by
  unfold sliceD str; dsimp only [sl]
  cases loOf lo <;> cases hiOf l.length hi <;> rfl
@[simp] theorem slice_slc {lo hi : Option Value} : sliceD (.slice (some ⟨g, o, none⟩) n c) lo hi none (some ⟨.slc e sz bytes z, s, zz⟩) = match loOf lo, hiOf n hi with
  | some a, some b => .need (0 ≤ a ∧ a ≤ b ∧ b ≤ n ∧ n ≤ c) (.slice (some ⟨g, offAt o a.toNat c sz, none⟩) (b.toNat - a.toNat) (c - a.toNat))
  | _, _ => .no := by
  unfold sliceD; dsimp only
  cases loOf lo <;> cases hiOf n hi <;> rfl
@[simp] theorem slice_slc3 {lo hi : Option Value} {m : Int} : sliceD (.slice (some ⟨g, o, none⟩) n c) lo hi (some (.int k m)) (some ⟨.slc e sz bytes z, s, zz⟩) = match loOf lo, hiOf n hi with
  | some a, some b => .need (0 ≤ a ∧ a ≤ b ∧ b ≤ m ∧ m ≤ c ∧ hi ≠ none) (.slice (some ⟨g, offAt o a.toNat m.toNat sz, none⟩) (b.toNat - a.toNat) (m.toNat - a.toNat))
  | _, _ => .no := by
  unfold sliceD; dsimp only
  cases loOf lo <;> cases hiOf n hi <;> rfl
@[simp] theorem slice_arr {lo hi : Option Value} {b : Bool} : sliceD (.pointer (some ⟨g, o, none⟩)) lo hi none (some ⟨.arr n sz b, s, zz⟩) = match loOf lo, hiOf n hi with
  | some a, some b => .need (0 ≤ a ∧ a ≤ b ∧ b ≤ n) (.slice (some ⟨g, offAt o a.toNat n sz, none⟩) (b.toNat - a.toNat) (n - a.toNat))
  | _, _ => .no := by
  unfold sliceD; dsimp only
  cases loOf lo <;> (try rfl) <;> (dsimp only; cases hiOf n hi <;> rfl)
@[simp] theorem offAt_lt {a m : Nat} (h : a < m) : offAt o a m sz = o + a * sz := by unfold offAt; rw [if_neg (by omega)]
@[simp] theorem offAt_zero {m : Nat} : offAt o 0 m sz = o := by unfold offAt; split <;> simp
@[simp] theorem idxR_D {x i : Value} : idxR T t x i = idxD x i (T t) := nr rfl
@[simp] theorem idx_str {l : List UInt8} : idxD (str l) (.int k i) (some ⟨.str, s, z⟩) = .need (0 ≤ i ∧ i < l.length) (.int .u8 (l.getD i.toNat 0).toNat) := nr rfl
@[simp] theorem idx_arr {cs : List Value} {b : Bool} : idxD (.agg cs.toArray) (.int k i) (some ⟨.arr n sz b, s, z⟩) = match partR cs (i.toNat * sz) sz b with
  | some v => .need (0 ≤ i ∧ i < n) v
  | none => .no := nr rfl
@[simp] theorem idxAddrR_D {x i : Value} : idxAddrR T t x i = idxAddrD x i (T t) := nr rfl
@[simp] theorem idxAddr_slc : idxAddrD (.slice (some ⟨g, o, none⟩) n c) (.int k i) (some ⟨.slc e sz bytes z, s, zz⟩) = .need (0 ≤ i ∧ i < n) (.pointer (some ⟨g, o + i.toNat * sz, none⟩)) := nr rfl
@[simp] theorem idxAddr_arr {b : Bool} : idxAddrD (.pointer (some ⟨g, o, none⟩)) (.int k i) (some ⟨.arr n sz b, s, zz⟩) = .need (0 ≤ i ∧ i < n) (.pointer (some ⟨g, o + i.toNat * sz, none⟩)) := nr rfl
@[simp] theorem fieldAddrR_D {x : Value} {f : Nat} : fieldAddrR T t x f = fieldAddrD x f (T t) := nr rfl
def fieldAt2 (g o : Nat) : Option (Nat × Nat × Bool) → Out
  | some (off, sz, _) => .need (sz ≠ 0) (.pointer (some ⟨g, o + off, none⟩))
  | none => .no
@[simp] theorem fieldAt2_some {off : Nat} {b : Bool} : fieldAt2 g o (some (off, sz, b)) = .need (sz ≠ 0) (.pointer (some ⟨g, o + off, none⟩)) := nr rfl
@[simp] theorem fieldAddr_st {fs : List (Nat × Nat × Bool)} {f : Nat} : fieldAddrD (.pointer (some ⟨g, o, none⟩)) f (some ⟨.strct fs, s, zz⟩) = fieldAt2 g o fs[f]? := by
  unfold fieldAddrD fieldAt2; rfl
@[simp] theorem fieldR_D {x : Value} {f : Nat} : fieldR T t x f = fieldD x f (T t) := nr rfl
def partAt2 (cs : List Value) : Option (Nat × Nat × Bool) → Out
  | some (off, sz, b) => outOpt (partR cs off sz b)
  | none => .no
@[simp] theorem partAt2_some {cs : List Value} {off : Nat} {b : Bool} : partAt2 cs (some (off, sz, b)) = outOpt (partR cs off sz b) := nr rfl
@[simp] theorem field_st {cs : List Value} {fs : List (Nat × Nat × Bool)} {f : Nat} : fieldD (.agg cs.toArray) f (some ⟨.strct fs, s, zz⟩) = partAt2 cs fs[f]? := by
  unfold fieldD partAt2
  dsimp only
  cases fs[f]? with
  | none => rfl
  | some x => obtain ⟨a, b, c⟩ := x; dsimp only; cases partR cs a b c <;> rfl
@[simp] theorem partR_flat {cs : List Value} {off : Nat} : partR cs off sz false = cs[off]? := nr rfl
@[simp] theorem partR_agg {cs : List Value} {off : Nat} : partR cs off sz true = some (.agg ((cs.drop off).take sz).toArray) := nr rfl
@[simp] theorem convR_D {a b : TypeId} {x : Value} : convR T a b x = convD x (T a) (T b) := nr rfl
@[simp] theorem vConv_D {a b : TypeId} {x : Value} : vConv T a b x K M = vConvD T (T a) (T b) x K M := nr rfl
@[simp] theorem conv_int {n' : Nat} : vConvD T (some ⟨.int k, n, z⟩) (some ⟨.int k', n', zz⟩) (.int k i) K M = K (.int k' (k'.wrap i)) M := nr rfl
@[simp] theorem conv_str {n' : Nat} {l : List UInt8} : vConvD T (some ⟨.str, n, z⟩) (some ⟨.str, n', zz⟩) (str l) K M = K (str l) M := nr rfl
theorem encode_low {i : Int} (h : 0 ≤ i ∧ i < 128) : Utf8.encode i = (⟨⟨[UInt8.ofNat i.toNat]⟩⟩ : ByteArray) := by
  unfold Utf8.encode
  have hv : Utf8.valid i = true := by unfold Utf8.valid; simp; omega
  simp only [hv, if_true]
  rw [if_pos (by omega)]
@[simp] theorem conv_rune {n' : Nat} (h : 0 ≤ i ∧ i < 128) : vConvD T (some ⟨.int k, n, z⟩) (some ⟨.str, n', zz⟩) (.int k' i) K M = K (str [UInt8.ofNat i.toNat]) M := by
  have e := encode_low h
  show vR (convD (.int k' i) (some ⟨.int k, n, z⟩) (some ⟨.str, n', zz⟩)) K M = _
  unfold convD
  show vR (.ok (.string (Utf8.encode i))) K M = _
  rw [e]
  rfl
@[simp] theorem conv_s2b {l : List UInt8} : vConvD T (some ⟨.str, n, z⟩) (some ⟨.slc e 1 bytes v, s, zz⟩) (str l) K M = vThen (isByte (T e) = true) (vNewC (bytesV l) K M) := nr rfl
@[simp] theorem isByte_u8 : isByte (some ⟨.int .u8, n, z⟩) = true := nr rfl
@[simp] theorem conv_b2s : vConvD T (some ⟨.slc e 1 bytes v, s, zz⟩) (some ⟨.str, n, z⟩) (.slice (some ⟨g, o, none⟩) sz c) K M = vThen (isByte (T e) = true) (vB2S1 (M.sub? g o sz) K M) := nr rfl
@[simp] theorem conv_b2s_nil : vConvD T (some ⟨.slc e 1 bytes v, s, zz⟩) (some ⟨.str, n, z⟩) (.slice none sz c) K M = vThen (isByte (T e) = true) (vBd True K (str []) M) := nr rfl
def vStr (r : Option (List UInt8)) (K : Value → Mem → Prop) (M : Mem) : Prop :=
  match r with
  | some l => K (str l) M
  | none => False
@[simp] theorem vStr_some {l : List UInt8} : vStr (some l) K M = K (str l) M := nr rfl
@[simp] theorem vB2S1_some {l : List Value} : vB2S1 (some l) K M = vStr (decB l) K M := by
  unfold vB2S1 vStr; dsimp only; cases decB l <;> simp [vBd]
attribute [simp] decB_bytesV
@[simp] theorem decB_nil : decB [] = some [] := nr rfl
@[simp] theorem decB_cons {l : List Value} {a : Int} : decB (.int .u8 a :: l) = (decB l).map fun r => UInt8.ofNat a.toNat :: r := nr rfl
@[simp] theorem lenR_D {x : Value} : lenR T t x = lenD x (T t) := nr rfl
@[simp] theorem len_str {l : List UInt8} : lenD (str l) (some ⟨.str, s, z⟩) = .ok (.int .i64 l.length) := nr rfl
@[simp] theorem len_slc {a : Option Addr} : lenD (.slice a n c) (some ⟨.slc e sz bytes z, s, zz⟩) = .ok (.int .i64 n) := nr rfl
@[simp] theorem min_at {a b : Int} : minR [.int k a, .int k' b] = .ok (.int k (if b < a then b else a)) := nr rfl
@[simp] theorem max_at {a b : Int} : maxR [.int k a, .int k' b] = .ok (.int k (if a < b then b else a)) := nr rfl
@[simp] theorem nil_ptr {a : Addr} : nilR (.pointer (some a)) = .ok (.pointer (some a)) := nr rfl
@[simp] theorem nil_func {f : FuncId} {a b : Array Value} : nilR (.func (.func f) a b) = .ok (.func (.func f) a b) := nr rfl
@[simp] theorem ifaceR_D {x : Value} : ifaceR T t x = ifaceD t x (T t) := nr rfl
@[simp] theorem vAlloc_D : vAlloc T t K M = vAllocD (T t) K M := nr rfl
@[simp] theorem vAlloc_some {i : TI} : vAllocD (some i) K M = vBox i.zero K M := nr rfl
@[simp] theorem vBox_flat {v : Value} (h : flatV v = true) : vBox v K M = vNew [v] aVal K M := by unfold vBox; rw [flat_cells h]
@[simp] theorem vBox_agg {l : List Value} : vBox (.agg l.toArray) K M = vNew l aVal K M := nr rfl
@[simp] theorem aVal_at {b : Nat} : aVal b = .pointer (some ⟨b, 0, none⟩) := nr rfl
@[simp] theorem vBuildS_D {len : Nat} {ps : List (Nat × Value)} : vBuildS T t len ps K M = vBuildSD (T t) len ps K M := nr rfl
@[simp] theorem vBuildS_one {len : Nat} {ps : List (Nat × Value)} : vBuildSD (some ⟨.slc e 1 bytes z, s, zz⟩) len ps K M = vThen (len ≤ 16777216 ∧ flatV z = true ∧ ∀ p ∈ ps, p.1 < len ∧ flatV p.2 = true)
      (vNew (fillL ps (List.replicate len z)) (fun b => .slice (some ⟨b, 0, none⟩) len len) K M) := nr rfl
@[simp] theorem fillL_nil {l : List Value} : fillL [] l = l := nr rfl
@[simp] theorem fillL_cons {j : Nat} {x : Value} {ps : List (Nat × Value)} {l : List Value} : fillL ((j, x) :: ps) l = fillL ps (l.set j x) := nr rfl
@[simp] theorem vLoad_D {x : Value} : vLoad T t x K M = vLoadD x (T t) K M := nr rfl
@[simp] theorem vLoad_at {i : TI} : vLoadD (.pointer (some ⟨g, o, none⟩)) (some i) K M = if i.d.agg then vGets (M.sub? g o i.size) K M else vGet (M.get? g o) K M := nr rfl
@[simp] theorem vGet_some : vGet (some v) K M = K v M := nr rfl
@[simp] theorem vGets_some {l : List Value} : vGets (some l) K M = K (.agg l.toArray) M := nr rfl
@[simp] theorem get_put {b : Nat} {w : Bool} {xs : List Value} : (M.put b (.cells w xs n)).get? b o = xs[o]? := by simp [Mem.get?]
@[simp] theorem get_ne {b : Nat} {B : Blk} (h : g ≠ b) : (M.put b B).get? g o = M.get? g o := by simp [Mem.get?, put_ne _ _ h]
open Classical in
/-- A value on a condition. -/
noncomputable def optIf {α : Type} (p : Prop) (v : α) : Option α := if p then some v else none
@[simp] theorem optIf_true {α : Type} {v : α} : optIf True v = some v := by simp [optIf]
@[simp] theorem optIf_t {α : Type} {p : Prop} {v : α} (h : p) : optIf p v = some v := by simp [optIf, h]
@[simp] theorem sub_put {b : Nat} {w : Bool} {xs : List Value} : (M.put b (.cells w xs sz)).sub? b o n = optIf (o + n ≤ xs.length) ((xs.drop o).take n) := by
  unfold Mem.sub? optIf; rw [put_same]
  by_cases h : o + n ≤ xs.length <;> simp [h]
attribute [simp] bytesV_length
@[simp] theorem sub_ne {b : Nat} {B : Blk} (h : g ≠ b) : (M.put b B).sub? g o n = M.sub? g o n := by simp [Mem.sub?, put_ne _ _ h]
@[simp] theorem put_ne_s {b : Nat} {B : Blk} (h : g ≠ b) : (M.put b B) g = M g := put_ne M B h
@[simp] theorem vStore_D {x v : Value} : vStore T t x v K M = vStoreD x v (T t) K M := nr rfl
@[simp] theorem vStore_at {x : Value} {i : TI} : vStoreD (.pointer (some ⟨g, o, none⟩)) x (some i) K M = if i.d.agg then vThen (x.cells.size = i.size) (vSt (M g) g o x.cells.toList K M) else vThen (i.size = 1) (vSt1 (M g) g o x K M) := nr rfl
@[simp] theorem vSt1_own {x : Value} {xs : List Value} : vSt1 (some (.cells true xs n)) g o x K M = vBd (o < xs.length ∧ flatV x = true) K undef (M.set g (.cells true (xs.set o x) n)) := nr rfl
@[simp] theorem vSt_own {vs xs : List Value} : vSt (some (.cells true xs n)) g o vs K M = vThen (o + vs.length ≤ xs.length ∧ xs.length ≤ n ∧ ∀ v ∈ vs, flatV v = true) (vBd True K undef (M.set g (.cells true (splice xs o vs) n))) := nr rfl
@[simp] theorem cells_agg {l : List Value} : (Value.agg l.toArray).cells = l.toArray := nr rfl
attribute [simp] set_same
@[simp] theorem set_ne_s {b : Nat} {B B' : Blk} (h : g ≠ b) : (M.put b B).set g B' = (M.set g B').put b B := set_ne M B B' h
@[simp] theorem del_same_s {b : Nat} {B : Blk} (h : M b = none) : (M.put b B).del b = M := del_same M b B h
@[simp] theorem del_ne_s {b : Nat} {B : Blk} (h : g ≠ b) : (M.put b B).del g = (M.del g).put b B := del_ne M B h
@[simp] theorem vMake_D {l c : Value} : vMake T t l c K M = vMakeD l c (T t) K M := nr rfl
@[simp] theorem vMake_at {l c : Int} : vMakeD (.int k l) (.int k' c) (some ⟨.slc e 1 bytes z, s, zz⟩) K M = vThen (0 ≤ l ∧ l ≤ c ∧ c ≤ 1099511627776 ∧ bytes ≤ 32 ∧ flatV z = true)
      (vNew (List.replicate c.toNat z) (fun b => .slice (some ⟨b, 0, none⟩) l.toNat c.toNat) K M) := nr rfl
@[simp] theorem vApp_two {a b : TypeId} {x y : Value} : vApp T [a, b] x y K M = vAppD (T a) (T b) x y K M := nr rfl
@[simp] theorem vApp_nil {d : Option TI} {x : Value} : vAppD (some ⟨.slc e 1 bytes z, s, zz⟩) d (.slice none 0 0) x K M = vThen (okSrc d = true ∧ flatV z = true ∧ 1 ≤ bytes ∧ bytes ≤ 32) (vApp0 bytes (srcOf M x) K M) := nr rfl
@[simp] theorem vApp_own {d : Option TI} {x : Value} : vAppD (some ⟨.slc e 1 bytes z, s, zz⟩) d (.slice (some ⟨g, 0, none⟩) n c) x K M = vThen (okSrc d = true ∧ flatV z = true ∧ 1 ≤ bytes ∧ bytes ≤ 32) (vApp2 bytes (M g) g n c (srcOf M x) K M) := nr rfl
@[simp] theorem okSrc_slc : okSrc (some ⟨.slc e sz bytes z, s, zz⟩) = true := nr rfl
@[simp] theorem okSrc_str : okSrc (some ⟨.str, s, zz⟩) = true := nr rfl
@[simp] theorem src_nil : srcOf M (.slice none 0 c) = some [] := nr rfl
@[simp] theorem src_slc : srcOf M (.slice (some ⟨g, o, none⟩) n c) = M.sub? g o n := nr rfl
@[simp] theorem src_str {l : List UInt8} : srcOf M (str l) = some (bytesV l) := nr rfl
@[simp] theorem vApp0_nil : vApp0 bytes (some []) K M = K (.slice none 0 0) M := by simp [vApp0, vBd]
@[simp] theorem vApp0_cons {x : Value} {xs : List Value} : vApp0 bytes (some (x :: xs)) K M = vThen ((xs.length + 1) * bytes ≤ 70368744177664) (vNewC (x :: xs) K M) := nr rfl
@[simp] theorem vApp2_own {xs news : List Value} {m : Nat} : vApp2 bytes (some (.cells true xs m)) g n c (some news) K M = vThen (n = xs.length ∧ c = m ∧ (n + news.length) * bytes ≤ 70368744177664 ∧ ∀ v ∈ news, flatV v = true) (vNewC (xs ++ news) K (M.del g)) := nr rfl
@[simp] theorem buildR_D {ps : List (Nat × Value)} : buildR T t ps = buildD ps (T t) := nr rfl
@[simp] theorem build_st {ps : List (Nat × Value)} {fs : List (Nat × Nat × Bool)} : buildD ps (some ⟨.strct fs, s, z⟩) = aggOpt (buildL (fun i => (fs[i]?).map fun x => (x.1, x.2.1)) z.cells.toList ps) := nr rfl
@[simp] theorem build_arr {ps : List (Nat × Value)} {b : Bool} : buildD ps (some ⟨.arr n sz b, s, z⟩) = aggOpt (buildL (fun i => some (i * sz, sz)) z.cells.toList ps) := nr rfl
@[simp] theorem buildL_nil {fs : Nat → Option (Nat × Nat)} {cs : List Value} : buildL fs cs [] = some cs := nr rfl
@[simp] theorem buildL_cons {fs : Nat → Option (Nat × Nat)} {cs : List Value} {i : Nat} {v : Value} {rest : List (Nat × Value)} : buildL fs cs ((i, v) :: rest) = buildAt fs cs rest v (fs i) := by
  unfold buildAt
  conv => lhs; unfold buildL
  cases fs i <;> rfl
@[simp] theorem buildAt_some {fs : Nat → Option (Nat × Nat)} {cs : List Value} {v : Value} {rest : List (Nat × Value)} {off sz : Nat} : buildAt fs cs rest v (some (off, sz)) = if v.cells.size = sz ∧ off + sz ≤ cs.length then buildL fs (splice cs off v.cells.toList) rest else none := nr rfl
@[simp] theorem cells_slice {a : Option Addr} {n c : Nat} : (Value.slice a n c).cells = #[.slice a n c] := nr rfl
@[simp] theorem cells_str {l : List UInt8} : (str l).cells = #[str l] := nr rfl
@[simp] theorem cells_int {k : IntKind} {i : Int} : (Value.int k i).cells = #[.int k i] := nr rfl
@[simp] theorem cells_nilFunc : Value.nilFunc.cells = #[.nilFunc] := nr rfl
@[simp] theorem cells_func {f : Fn} {a c : Array Value} : (Value.func f a c).cells = #[.func f a c] := nr rfl
@[simp] theorem cells_ptr {a : Option Addr} : (Value.pointer a).cells = #[.pointer a] := nr rfl
@[simp] theorem cells_bool {b : Bool} : (Value.bool b).cells = #[.bool b] := nr rfl
@[simp] theorem cells_agg' {l : Array Value} : (Value.agg l).cells = l := nr rfl
@[simp] theorem splice_at {cs vs : List Value} {o : Nat} : splice cs o vs = cs.take o ++ vs ++ cs.drop (o + vs.length) := nr rfl
@[simp] theorem aggOpt_some {l : List Value} : aggOpt (some l) = .ok (.agg l.toArray) := nr rfl
end
/-! ### Regions that draw their order -/
section
variable {P : Program} {T : Tab} {n : Nat} {Q : Exit → Env → Mem → Prop} {env : Env} {M : Mem} {K : Value → Mem → Prop} {ops rest : List Oper}
@[simp] theorem vQs_nil : vQs P T ops Q [] env M = Q .normal env M := nr rfl
@[simp] theorem vQs_plain {d : Option Tmp} {o : Op} {ty : TypeId} {pos : String} {af : Array Edge} : vQs P T ops Q (⟨d, o, ty, pos, af, none⟩ :: rest) env M = vQ P T o env (Kt (vQs P T ops Q rest) env d) M := nr rfl
@[simp] theorem vQs_guard {d : Option Tmp} {o : Op} {ty : TypeId} {pos : String} {af : Array Edge} {j : Nat} {b : Bool} : vQs P T ops Q (⟨d, o, ty, pos, af, some (j, b)⟩ :: rest) env M = vGd (yE ops env j) b (gQ P T o d (vQs P T ops Q rest)) (gB d (vQs P T ops Q rest)) env M := nr rfl
@[simp] theorem gQ_at {o : Op} {d : Option Tmp} {r : Env → Mem → Prop} : gQ P T o d r env M = vQ P T o env (Kt r env d) M := nr rfl
@[simp] theorem vQ_move {x : Operand} : vQ P T (.move x) env K M = vOp P T (.move x) env K M := nr rfl
@[simp] theorem vQ_assign {x : Operand} : vQ P T (.assign x) env K M = vOp P T (.assign x) env K M := nr rfl
@[simp] theorem vQ_pick {c a b : Operand} : vQ P T (.pick c a b) env K M = vOp P T (.pick c a b) env K M := nr rfl
@[simp] theorem vQ_load {t : TypeId} {x : Operand} : vQ P T (.load t x) env K M = vOp P T (.load t x) env K M := nr rfl
@[simp] theorem vQ_bin {op : BinOp} {t t' : TypeId} {x y : Operand} : vQ P T (.binOp op t x y t') env K M = vOp P T (.binOp op t x y t') env K M := nr rfl
@[simp] theorem vQ_un {op : UnOp} {t : TypeId} {x : Operand} : vQ P T (.unOp op t x) env K M = vOp P T (.unOp op t x) env K M := nr rfl
@[simp] theorem vQ_conv {a b : TypeId} {x : Operand} : vQ P T (.convert a b x) env K M = vR (convR T a b (ev env x)) K M := nr rfl
@[simp] theorem conv2_int {k k' : IntKind} {m m' : Nat} {z zz : Value} {i : Int} : convD (.int k i) (some ⟨.int k, m, z⟩) (some ⟨.int k', m', zz⟩) = .ok (.int k' (k'.wrap i)) := nr rfl
@[simp] theorem conv2_str {l : List UInt8} {m m' : Nat} {z zz : Value} : convD (str l) (some ⟨.str, m, z⟩) (some ⟨.str, m', zz⟩) = .ok (str l) := nr rfl
@[simp] theorem vQ_slice {t : TypeId} {x : Operand} {lo hi mx : Option Operand} : vQ P T (.slice t x lo hi mx) env K M = vOp P T (.slice t x lo hi mx) env K M := nr rfl
@[simp] theorem vQ_fieldAddr {t : TypeId} {x : Operand} {f : Nat} : vQ P T (.fieldAddr t x f) env K M = vOp P T (.fieldAddr t x f) env K M := nr rfl
@[simp] theorem vQ_field {t : TypeId} {x : Operand} {f : Nat} : vQ P T (.field t x f) env K M = vOp P T (.field t x f) env K M := nr rfl
@[simp] theorem vQ_idxAddr {t : TypeId} {x i : Operand} : vQ P T (.indexAddr t x i) env K M = vOp P T (.indexAddr t x i) env K M := nr rfl
@[simp] theorem vQ_idx {t : TypeId} {x i : Operand} : vQ P T (.index t x i) env K M = vOp P T (.index t x i) env K M := nr rfl
@[simp] theorem vQ_ext {x : Operand} {i : Nat} : vQ P T (.extract x i) env K M = vOp P T (.extract x i) env K M := nr rfl
@[simp] theorem vQ_nil {x : Operand} : vQ P T (.nilCheck x) env K M = vOp P T (.nilCheck x) env K M := nr rfl
@[simp] theorem vQ_len {x : Operand} {t : TypeId} : vQ P T (.call ⟨.builtin .len, [x].toArray, [t].toArray⟩) env K M = vR (lenR T t (ev env x)) K M := nr rfl
@[simp] theorem vQ_min {l : List Operand} {ts : Array TypeId} : vQ P T (.call ⟨.builtin .min, l.toArray, ts⟩) env K M = vR (minR (l.map (ev env))) K M := nr rfl
@[simp] theorem vQ_max {l : List Operand} {ts : Array TypeId} : vQ P T (.call ⟨.builtin .max, l.toArray, ts⟩) env K M = vR (maxR (l.map (ev env))) K M := nr rfl
@[simp] theorem vQ_call {f : Operand} {l : List Operand} {ts : Array TypeId} : vQ P T (.call ⟨.value f, l.toArray, ts⟩) env K M = vQCall P (ev env f) (l.map (ev env)) K M := nr rfl
theorem vQCall_at {g : FuncId} {a c args : List Value} {v : Value} (h : Does P g (a ++ args ++ c) M fun v' M' => v' = v ∧ M' = M) (hk : K v M) : vQCall P (.func (.func g) a.toArray c.toArray) args K M := ⟨v, h, hk⟩
end
theorem ret_of {R : Value → Mem → Prop} {v : Value} {M : Mem} (h : R v M) : vRet R v M := ⟨M, Sub.refl M, h⟩
theorem ret_sub {R : Value → Mem → Prop} {v : Value} {M M1 : Mem} (hs : Sub M1 M) (h : R v M1) : vRet R v M := ⟨M1, hs, h⟩
end Go.Proofs.Ytbefijbmgmbphaa
