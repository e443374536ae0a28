/- Merged: E0 E1 E2 E3 E4 E6 E5. -/
import Derived.Deep.LoopGhost
import Derived.Laws.Sem
import Derived.Laws.Entries
import Derived.Laws.Strings
import Derived.Laws.Cells
import Derived.Laws.BytesString
import Derived.Laws.BytesArg
import Derived.ChangeKeysEq
import Derived.Deep.Quiet
/-! The ground of a small calculus of own making: what a call does to a part of memory that is told as a list of blocks. -/
namespace Go.Proofs.YthpcojnpiggaiaaGreat
open Go

/-- The temporaries, as a function. -/
abbrev Env := Nat → Value
def ev (env : Env) : Operand → Value
  | .tmp t => env t
  | .const v => v
  | .global g => .pointer (some ⟨g, 0, none⟩)
  | .func f => .func (.func f) #[] #[]
def put (env : Env) (d : Option Tmp) (v : Value) : Env :=
  match d with
  | some d => fun t => if t = d then v else env t
  | none => env

/-- What is told of a block: its first cells (and its size, and whether it may be written), or a whole object. -/
inductive Blk where
  | cells (own : Bool) (xs : List Value) (tot : Nat)
  | obj (o : Obj)
def Blk.own : Blk → Bool
  | .cells o _ _ => o
  | .obj _ => true
/-- What is told of memory. -/
abbrev Mem := Nat → Option Blk
def Mem.put (M : Mem) (b : Nat) (B : Blk) : Mem := fun i => if i = b then some B else M i
def Mem.del (M : Mem) (b : Nat) : Mem := fun i => if i = b then none else M i
def Blk.holds (w : World) (b : Nat) : Blk → Prop
  | .cells own xs tot => ∃ c e fr, w.heap[b]? = some (.cells c e fr) ∧ c.size = tot ∧ (∃ ys, c.toList = xs ++ ys) ∧
      (own = true → fr.1 = fr.2 ∨ tot ≤ fr.1)
  | .obj o => w.heap[b]? = some o ∧ ∀ c e fr, o ≠ .cells c e fr
def Rep (M : Mem) (w : World) : Prop := ∀ b B, M b = some B → B.holds w b
def owns (M : Mem) (b : Nat) : Prop := ∃ B, M b = some B ∧ B.own = true
/-- From (M, w) to (M', w'): nothing but own blocks is written. -/
structure Ext (M : Mem) (w : World) (M' : Mem) (w' : World) : Prop where
  os : w'.os = w.os
  tape : w'.tape = w.tape
  output : w'.output = w.output
  size : w.heap.size ≤ w'.heap.size
  block : ∀ b, b < w.heap.size → ¬ owns M b → w'.heap[b]? = w.heap[b]?
  own : ∀ b, owns M' b → owns M b ∨ w.heap.size ≤ b
theorem Ext.refl (M : Mem) (w : World) : Ext M w M w := ⟨rfl, rfl, rfl, Nat.le_refl _, fun _ _ _ => rfl, fun _ h => .inl h⟩
theorem Ext.trans {M M' M'' : Mem} {w w' w'' : World} (h : Ext M w M' w') (k : Ext M' w' M'' w'') : Ext M w M'' w'' :=
  ⟨k.os.trans h.os, k.tape.trans h.tape, k.output.trans h.output, Nat.le_trans h.size k.size,
   fun b hb ho => (k.block b (Nat.lt_of_lt_of_le hb h.size) (fun ho' => (h.own b ho').elim ho (fun h' => absurd hb (Nat.not_lt.2 h')))).trans (h.block b hb ho),
   fun b hb => (k.own b hb).elim (fun h' => h.own b h') (fun h' => .inr (Nat.le_trans h.size h'))⟩
/-- A part of what is told. -/
def Sub (M N : Mem) : Prop := ∀ b B, M b = some B → N b = some B
theorem Sub.refl (M : Mem) : Sub M M := fun _ _ h => h
theorem Sub.trans {A B C : Mem} (h : Sub A B) (k : Sub B C) : Sub A C := fun b x hx => k b x (h b x hx)
theorem Sub.put {M N : Mem} (h : Sub M N) {b : Nat} (hb : M b = none) (B : Blk) : Sub M (N.put b B) := by
  intro i x hx
  unfold Mem.put
  split
  · rename_i e; subst e; rw [hb] at hx; cases hx
  · exact h i x hx
theorem Sub.both {M N : Mem} (h : Sub M N) (b : Nat) (B : Blk) : Sub (M.put b B) (N.put b B) := by
  intro i x hx
  unfold Mem.put at *
  split at hx
  · rename_i e; rw [if_pos e]; exact hx
  · rename_i e; rw [if_neg e]; exact h i x hx
theorem Rep.sub {M N : Mem} {w : World} (h : Rep N w) (hs : Sub M N) : Rep M w := fun b B hb => h b B (hs b B hb)
theorem owns_sub {M N : Mem} (hs : Sub M N) {b : Nat} (h : owns M b) : owns N b := let ⟨B, h1, h2⟩ := h; ⟨B, hs b B h1, h2⟩
theorem Ext.sub {M M' N : Mem} {w w' : World} (h : Ext M w N w') (hs : Sub M' N) : Ext M w M' w' :=
  ⟨h.os, h.tape, h.output, h.size, h.block, fun b hb => h.own b (owns_sub hs hb)⟩

/-- A function of the program with a body. -/
def HasBody (P : Program) (f : FuncId) : Prop := ∃ fn, P.funcs[f]? = some fn ∧ (fn.name == "runtime.NumGoroutine") = false ∧ fn.body.isNone = false
/-- A call: from memory as told by M it returns a value v and leaves memory as told by M', R being true of them. -/
def Does (P : Program) (f : FuncId) (args : List Value) (M : Mem) (R : Value → Mem → Prop) : Prop :=
  HasBody P f ∧ ∀ w, Rep M w → Calls P f args.toArray w fun e w' => ∃ v M', e = .returned v ∧ Rep M' w' ∧ Ext M w M' w' ∧ R v M'
theorem Does.mono {P : Program} {f : FuncId} {args : List Value} {M : Mem} {R R' : Value → Mem → Prop} (h : Does P f args M R) (hr : ∀ v M', R v M' → R' v M') : Does P f args M R' :=
  ⟨h.1, fun w hw => (h.2 w hw).mono fun _ _ ⟨v, M', h1, h2, h3, h4⟩ => ⟨v, M', h1, h2, h3, hr v M' h4⟩⟩
/-- What is more than a call needs stays as it is. -/
theorem Does.weaken {P : Program} {f : FuncId} {args : List Value} {M N : Mem} {R : Value → Mem → Prop} (h : Does P f args M R) (hs : Sub M N) : Does P f args N R :=
  ⟨h.1, fun w hw => (h.2 w (hw.sub hs)).mono fun _ _ ⟨v, M', h1, h2, h3, h4⟩ => ⟨v, M', h1, h2,
    ⟨h3.os, h3.tape, h3.output, h3.size, fun b hb ho => h3.block b hb (fun h' => ho (owns_sub hs h')), fun b hb => (h3.own b hb).imp (owns_sub hs) id⟩, h4⟩⟩

/-- An act fits an environment. -/
structure Fits (n : Nat) (env : Env) (a : Act) : Prop where
  defers : a.defers = []
  size : a.tmps.size = n
  ev : a.eval = ev env
theorem Fits.put {n : Nat} {env : Env} {a : Act} (h : Fits n env a) {d : Option Tmp} (hd : ∀ t, d = some t → t < n) (v : Value) : Fits n (put env d v) (a.put d v) := by
  cases d with
  | none => exact h
  | some d =>
    have hd' := hd d rfl
    refine ⟨h.defers, by simp [Act.put, h.size], ?_⟩
    have he := h.ev
    funext x
    cases x with
    | tmp t =>
      have h1 := congrFun he (.tmp t)
      simp only [Act.eval, Proofs.YthpcojnpiggaiaaGreat.ev] at h1
      simp only [Act.put, Act.eval, Proofs.YthpcojnpiggaiaaGreat.ev, Proofs.YthpcojnpiggaiaaGreat.put]
      by_cases e : t = d
      · subst e
        rw [if_pos rfl]
        simp [h.size, hd']
      · rw [if_neg e, ← h1]
        simp only [Array.getD_eq_getD_getElem?]
        rw [Array.getElem?_setIfInBounds_ne (Ne.symm e)]
    | const v => rfl
    | global g => rfl
    | func f => rfl
/-- What holds at a way out, in the calculus' words. -/
def Way (n : Nat) (M0 : Mem) (w0 : World) (Q : Exit → Env → Mem → Prop) : Exit → Act → World → Prop :=
  fun e a w => ∃ env M, Fits n env a ∧ Rep M w ∧ Ext M0 w0 M w ∧ Q e env M
/-- A piece of code. -/
def CodeTo (P : Program) (n : Nat) (c : Code) (Q : Exit → Env → Mem → Prop) (env : Env) (M : Mem) : Prop :=
  ∀ M0 w0 a w, Fits n env a → Rep M w → Ext M0 w0 M w → c.wp P (Way n M0 w0 Q) a w
/-- One operation: its value, and memory behind it. -/
def OpTo (P : Program) (o : Op) (env : Env) (M : Mem) (K : Value → Mem → Prop) : Prop :=
  ∀ (o' : Oper) (a : Act) (w : World) (next : Act → World → Prop) (Q : Exit → Act → World → Prop), o'.op = o → a.eval = ev env → Rep M w →
    (∀ v M' w', Rep M' w' → Ext M w M' w' → K v M' → next (a.put o'.dst v) w') → o'.upon P a next Q ((execOp a.eval o').run P w)

section
variable {P : Program} {n : Nat} {Q : Exit → Env → Mem → Prop} {env : Env} {M : Mem}
theorem CodeTo.mono {c : Code} {Q' : Exit → Env → Mem → Prop} (h : CodeTo P n c Q env M) (hq : ∀ e env M, Q e env M → Q' e env M) : CodeTo P n c Q' env M :=
  fun M0 w0 a w h1 h2 h3 => wp_mono (h M0 w0 a w h1 h2 h3) fun _ _ _ ⟨e', m', a1, a2, a3, a4⟩ => ⟨e', m', a1, a2, a3, hq _ _ _ a4⟩
theorem codeTo_skip (h : Q .normal env M) : CodeTo P n .skip Q env M := fun _ _ _ _ h1 h2 h3 => wp_skip ⟨_, _, h1, h2, h3, h⟩
theorem codeTo_ret (h : Q .ret env M) : CodeTo P n .ret Q env M := fun _ _ _ _ h1 h2 h3 => wp_ret ⟨_, _, h1, h2, h3, h⟩
theorem codeTo_exit {id : Nat} (h : Q (.exit id) env M) : CodeTo P n (.exit id) Q env M := fun _ _ _ _ h1 h2 h3 => wp_exit ⟨_, _, h1, h2, h3, h⟩
def thenQ (A : Env → Mem → Prop) (Q : Exit → Env → Mem → Prop) : Exit → Env → Mem → Prop
  | .normal, env, M => A env M
  | e, env, M => Q e env M
theorem codeTo_seq {x y : Code} (h : CodeTo P n x (thenQ (CodeTo P n y Q) Q) env M) : CodeTo P n (.seq x y) Q env M := by
  intro M0 w0 a w h1 h2 h3
  refine wp_seq (wp_mono (h M0 w0 a w h1 h2 h3) ?_)
  rintro e a' w' ⟨env', M', a1, a2, a3, a4⟩
  cases e with
  | normal => exact a4 M0 w0 a' w' a1 a2 a3
  | exit id => exact ⟨_, _, a1, a2, a3, a4⟩
  | goto id => exact ⟨_, _, a1, a2, a3, a4⟩
  | ret => exact ⟨_, _, a1, a2, a3, a4⟩
  | panic c => exact ⟨_, _, a1, a2, a3, a4⟩
  | outgrown => exact ⟨_, _, a1, a2, a3, a4⟩
theorem codeTo_cond {c : Operand} {x y : Code} {t : Bool} (hc : ev env c = .bool t) (ht : t = true → CodeTo P n x Q env M) (hf : t = false → CodeTo P n y Q env M) : CodeTo P n (.cond c x y) Q env M := by
  intro M0 w0 a w h1 h2 h3
  exact wp_cond_split (by rw [h1.ev]; exact hc) (fun e => ht e M0 w0 a w h1 h2 h3) (fun e => hf e M0 w0 a w h1 h2 h3)
def inBlk (id : Nat) (Q : Exit → Env → Mem → Prop) : Exit → Env → Mem → Prop
  | .exit id', env, M => if id' = id then Q .normal env M else Q (.exit id') env M
  | e, env, M => Q e env M
theorem codeTo_block {id : Nat} {c : Code} (h : CodeTo P n c (inBlk id Q) env M) : CodeTo P n (.block id c) Q env M := by
  intro M0 w0 a w h1 h2 h3
  refine wp_block (wp_mono (h M0 w0 a w h1 h2 h3) ?_)
  rintro e a' w' ⟨env', M', a1, a2, a3, a4⟩
  cases e with
  | normal => exact ⟨_, _, a1, a2, a3, a4⟩
  | exit id' =>
    simp only [inBlk] at a4
    simp only [Exit.inBlock]
    split
    · rename_i e; rw [if_pos e] at a4; exact ⟨_, _, a1, a2, a3, a4⟩
    · rename_i e; rw [if_neg e] at a4; exact ⟨_, _, a1, a2, a3, a4⟩
  | goto id => exact ⟨_, _, a1, a2, a3, a4⟩
  | ret => exact ⟨_, _, a1, a2, a3, a4⟩
  | panic c => exact ⟨_, _, a1, a2, a3, a4⟩
  | outgrown => exact ⟨_, _, a1, a2, a3, a4⟩
/-- A loop: a relation that bears a number, which each round lowers. -/
theorem codeTo_loop {body : Code} (I : Nat → Env → Mem → Prop) (k : Nat) (h0 : I k env M)
    (round : ∀ k env M, I k env M → CodeTo P n body (thenQ (fun env' M' => ∃ k' M1, Sub M1 M' ∧ k' < k ∧ I k' env' M1) Q) env M) : CodeTo P n (.loop body) Q env M := by
  intro M0 w0 a w h1 h2 h3
  refine wp_loop_ghost (fun k a w => Way n M0 w0 (fun _ env M => I k env M) .normal a w) k ⟨_, _, h1, h2, h3, h0⟩ ?_
  rintro k a w ⟨env', M', a1, a2, a3, a4⟩
  refine wp_mono (round k env' M' a4 M0 w0 a w a1 a2 a3) ?_
  rintro e a' w' ⟨env'', M'', b1, b2, b3, b4⟩
  cases e with
  | normal => obtain ⟨k', M1, hs, hk, hi⟩ := b4; exact ⟨k', hk, _, _, b1, b2.sub hs, b3.sub hs, hi⟩
  | exit id => exact ⟨_, _, b1, b2, b3, b4⟩
  | goto id => exact ⟨_, _, b1, b2, b3, b4⟩
  | ret => exact ⟨_, _, b1, b2, b3, b4⟩
  | panic c => exact ⟨_, _, b1, b2, b3, b4⟩
  | outgrown => exact ⟨_, _, b1, b2, b3, b4⟩

/-- What an operation of a region told it, as the guards read it. -/
def yE (ops : List Oper) (env : Env) (j : Nat) : Option Bool :=
  match (ops[j]?).bind (·.dst) with
  | some d => match env d with
    | .bool b => some b
    | _ => none
  | none => none
theorem yielded_fits {a : Act} (h : Fits n env a) (ops : Array Oper) (j : Nat) : yielded ops a.tmps j = yE ops.toList env j := by
  unfold yielded yE
  rw [Array.getElem?_toList]
  cases hd : (ops[j]?).bind (·.dst) with
  | none => rfl
  | some d =>
    have h1 := congrFun h.ev (.tmp d)
    simp only [Act.eval, Proofs.YthpcojnpiggaiaaGreat.ev, Array.getD_eq_getD_getElem?] at h1
    simp only [Option.bind_some]
    cases he : a.tmps[d]? with
    | none => rw [he] at h1; simp only [Option.getD_none] at h1; rw [← h1]; rfl
    | some v => rw [he] at h1; simp only [Option.getD_some] at h1; rw [← h1]; cases v <;> rfl
/-- The operations of a region, in their order. -/
def OpsTo (P : Program) (n : Nat) (ops : List Oper) (Q : Exit → Env → Mem → Prop) (l : List Oper) (env : Env) (M : Mem) : Prop :=
  ∀ M0 w0 a w, Fits n env a → Rep M w → Ext M0 w0 M w → wpList P ops.toArray (Way n M0 w0 Q) l a w
theorem opsTo_nil {ops : List Oper} (h : Q .normal env M) : OpsTo P n ops Q [] env M := fun _ _ _ _ h1 h2 h3 => ⟨_, _, h1, h2, h3, h⟩
theorem opsTo_plain {ops : List Oper} {o : Oper} {rest : List Oper} (hg : o.guard = none) (hd : ∀ t, o.dst = some t → t < n) (h : OpTo P o.op env M fun v M' => OpsTo P n ops Q rest (put env o.dst v) M') :
    OpsTo P n ops Q (o :: rest) env M := by
  intro M0 w0 a w h1 h2 h3
  unfold wpList
  rw [if_pos (by simp [Region.wanted, hg])]
  exact .inl (h o a w _ _ rfl h1.ev h2 fun v M' w' a1 a2 a3 => a3 M0 w0 _ _ (h1.put hd v) a1 (h3.trans a2))
theorem opsTo_taken {ops : List Oper} {o : Oper} {rest : List Oper} {j : Nat} {b : Bool} (hg : o.guard = some (j, b)) (hy : yE ops env j = some b) (hd : ∀ t, o.dst = some t → t < n)
    (h : OpTo P o.op env M fun v M' => OpsTo P n ops Q rest (put env o.dst v) M') : OpsTo P n ops Q (o :: rest) env M := by
  intro M0 w0 a w h1 h2 h3
  unfold wpList
  rw [if_pos (by simp [Region.wanted, hg, yielded_fits h1, hy])]
  exact .inl (h o a w _ _ rfl h1.ev h2 fun v M' w' a1 a2 a3 => a3 M0 w0 _ _ (h1.put hd v) a1 (h3.trans a2))
theorem opsTo_passed {ops : List Oper} {o : Oper} {rest : List Oper} {j : Nat} {b : Bool} (hg : o.guard = some (j, b)) (hy : yE ops env j ≠ some b) (hd : ∀ t, o.dst = some t → t < n)
    (h : OpsTo P n ops Q rest (put env o.dst undef) M) : OpsTo P n ops Q (o :: rest) env M := by
  intro M0 w0 a w h1 h2 h3
  unfold wpList
  rw [if_neg (by simp [Region.wanted, hg, yielded_fits h1, hy])]
  exact h M0 w0 _ _ (h1.put hd undef) h2 h3
theorem codeTo_region {id : Nat} {ops : Array Oper} (h : OpsTo P n ops.toList Q ops.toList env M) : CodeTo P n (.region id ops false) Q env M :=
  fun M0 w0 a w h1 h2 h3 => wp_region_list (by have := h M0 w0 a w h1 h2 h3; simpa using this)
end
section
variable {P : Program} {o : Op} {env : Env} {M : Mem} {K : Value → Mem → Prop}
theorem OpTo.mono {K' : Value → Mem → Prop} (h : OpTo P o env M K) (hk : ∀ v M', K v M' → K' v M') : OpTo P o env M K' :=
  fun o' a w next Q e he hr hn => h o' a w next Q e he hr fun v M' w' a1 a2 a3 => hn v M' w' a1 a2 (hk v M' a3)
/-- An operation that leaves a value. -/
theorem opTo_value (h : ∀ w o', Rep M w → o'.op = o → ∃ v w' M', (execOp (ev env) o').run P w = .ok (.value v) w' ∧ Rep M' w' ∧ Ext M w M' w' ∧ K v M') : OpTo P o env M K := by
  intro o' a w next Q e he hr hn
  obtain ⟨v, w', M', h1, h2, h3, h4⟩ := h w o' hr e
  rw [he, h1]
  exact hn v M' w' h2 h3 h4
theorem opTo_skip (h : ∀ w o', Rep M w → o'.op = o → ∃ w' M', (execOp (ev env) o').run P w = .ok .skip w' ∧ Rep M' w' ∧ Ext M w M' w' ∧ K undef M') : OpTo P o env M K := by
  intro o' a w next Q e he hr hn
  obtain ⟨w', M', h1, h2, h3, h4⟩ := h w o' hr e
  rw [he, h1]
  exact hn undef M' w' h2 h3 h4
theorem opTo_pure (v : Value) (h : ∀ w o', o'.op = o → (execOp (ev env) o').run P w = .ok (.value v) w) (hk : K v M) : OpTo P o env M K :=
  opTo_value fun w o' hr e => ⟨v, w, M, h w o' e, hr, Ext.refl _ _, hk⟩
theorem opTo_enter (f : FuncId) (args : List Value) (h : ∀ w o', o'.op = o → (execOp (ev env) o').run P w = .ok (.enter f args.toArray) w) (hk : Does P f args M K) : OpTo P o env M K := by
  intro o' a w next Q e he hr hn
  rw [he, h w o' e]
  exact (hk.2 w hr).mono fun e' w' ⟨v, M', h1, h2, h3, h4⟩ => by rw [h1]; exact hn v M' w' h2 h3 h4
end
/-- The results of a function, as its environment and memory tell them. -/
def Mem.get? (M : Mem) (b i : Nat) : Option Value :=
  match M b with
  | some (.cells _ xs _) => xs[i]?
  | _ => none
theorem Rep.cell {M : Mem} {w : World} (h : Rep M w) {b i : Nat} {v : Value} (hv : M.get? b i = some v) : w.cell? ⟨b, i, none⟩ = some v := by
  unfold Mem.get? at hv
  split at hv
  · rename_i own xs tot hb
    obtain ⟨c, e, fr, h1, h2, ⟨ys, h3⟩, _⟩ := h b _ hb
    have hi : i < xs.length := by
      rcases Nat.lt_or_ge i xs.length with h | h
      · exact h
      · rw [List.getElem?_eq_none h] at hv; cases hv
    simp only [World.cell?, h1, Option.isSome_none, Bool.false_eq_true, if_false]
    rw [← Array.getElem?_toList, h3, List.getElem?_append_left hi, hv]
  · cases hv
end Go.Proofs.YthpcojnpiggaiaaGreat
/-! The calculus, continued: operations that neither read nor write memory. -/
namespace Go.Proofs.YthpcojnpiggaiaaGreat
open Go

/-- What is told of a type. -/
inductive TD where
  | bool | int (k : IntKind) | str | flat | iface | func
  | slc (e : TypeId) (sz bytes : Nat) (z : Value)
  | strct (fs : List (Nat × Nat × Bool))
  | arr (n sz : Nat) (agg : Bool)
/-- Is it told cell by cell? -/
def TD.agg : TD → Bool
  | .strct _ | .arr _ _ _ => true
  | _ => false
structure TI where
  d : TD
  size : Nat
  zero : Value
abbrev Tab := TypeId → Option TI
/-- Is a value of this type told cell by cell? -/
def aggOf (P : Program) (t : TypeId) : Bool := match P.underlying t with
  | some (.struct _) | some (.array _ _) => true
  | _ => false
def TD.ok (P : Program) (t : TypeId) : TD → Prop
  | .bool => P.underlying t = some .bool
  | .int k => P.underlying t = some (.int k)
  | .str => P.underlying t = some .string
  | .flat => ∃ d, P.underlying t = some d ∧ (match d with | .struct _ | .array _ _ | .interface _ => false | _ => true) = true
  | .iface => ∃ ms, P.underlying t = some (.interface ms)
  | .func => ∃ a b c, P.underlying t = some (.func a b c)
  | .slc e sz bytes z => P.underlying t = some (.slice e) ∧ ∃ I, P.info? e = some I ∧ I.size = sz ∧ I.bytes = bytes ∧ I.zero = some z
  | .strct fs => ∃ F : Array Field, P.underlying t = some (.struct F) ∧ F.toList.map (fun f => (f.offset, P.cellsOf f.type, aggOf P f.type)) = fs ∧ ∀ f, f ∈ F.toList → (P.info? f.type).isSome = true ∧ (P.underlying f.type).isSome = true
  | .arr n sz g => ∃ e, P.underlying t = some (.array n e) ∧ (∃ I, P.info? e = some I ∧ I.size = sz) ∧ aggOf P e = g ∧ (P.underlying e).isSome = true
def TI.ok (P : Program) (t : TypeId) (i : TI) : Prop := i.d.ok P t ∧ ∃ I, P.info? t = some I ∧ I.zero = some i.zero ∧ I.size = i.size
def TabOk (P : Program) (T : Tab) : Prop := ∀ t i, T t = some i → i.ok P t

/-- A string, as the list of its bytes. -/
def str (l : List UInt8) : Value := .string ⟨⟨l⟩⟩
def sl (s : ByteArray) : List UInt8 := s.data.toList
theorem string_sl (s : ByteArray) : Value.string s = str (sl s) := rfl
theorem string_lit (l : List UInt8) : Value.string ⟨l.toArray⟩ = str l := rfl
theorem string_mk (l : List UInt8) : Value.string ⟨⟨l⟩⟩ = str l := rfl
theorem str_inj {a b : List UInt8} : str a = str b ↔ a = b := by
  constructor
  · intro h; unfold str at h; injection h with h; injection h with h; injection h
  · rintro rfl; rfl
theorem toList_mk (l : List UInt8) : (⟨⟨l⟩⟩ : ByteArray).toList = l := by
  simp [ByteArray.toList_eq]

/-- What an operation on values comes to: a value; a value on a condition; or nothing that is told here. -/
inductive Out where
  | ok (v : Value)
  | need (p : Prop) (v : Value)
  | no
def vR (r : Out) (K : Value → Mem → Prop) (M : Mem) : Prop :=
  match r with
  | .ok v => K v M
  | .need p v => p ∧ K v M
  | .no => False

/-- Whether a type is of the kind that a comparison wants. -/
inductive EqK where
  | bool | slice | iface
def eqD (d : Option TI) (k : EqK) (v : Value) : Out :=
  match d, k with
  | some ⟨.bool, _, _⟩, .bool => .ok v
  | some ⟨.slc _ _ _ _, _, _⟩, .slice => .ok v
  | some ⟨.iface, _, _⟩, .iface => .ok v
  | _, _ => .no
def binR (T : Tab) (op : BinOp) (t : TypeId) (x y : Value) : Out :=
  match op, x, y with
  | .shl, .int k a, .int _ b => .need (0 ≤ b) (.int k (k.wrap (a * 2 ^ (min b.toNat k.bits))))
  | .shr, .int k a, .int _ b => .need (0 ≤ b) (.int k (a.fdiv (2 ^ (min b.toNat k.bits))))
  | .add, .int k a, .int k' b => if k = k' then .ok (.int k (k.wrap (a + b))) else .no
  | .sub, .int k a, .int k' b => if k = k' then .ok (.int k (k.wrap (a - b))) else .no
  | .mul, .int k a, .int k' b => if k = k' then .ok (.int k (k.wrap (a * b))) else .no
  | .quo, .int k a, .int k' b => if k = k' then .need (b ≠ 0) (.int k (k.wrap (a.tdiv b))) else .no
  | .rem, .int k a, .int k' b => if k = k' then .need (b ≠ 0) (.int k (a.tmod b)) else .no
  | .and, .int k a, .int k' b => if k = k' then .ok (.int k (k.wrap (BitVec.ofInt k.bits a &&& BitVec.ofInt k.bits b).toNat)) else .no
  | .or, .int k a, .int k' b => if k = k' then .ok (.int k (k.wrap (BitVec.ofInt k.bits a ||| BitVec.ofInt k.bits b).toNat)) else .no
  | .xor, .int k a, .int k' b => if k = k' then .ok (.int k (k.wrap (BitVec.ofInt k.bits a ^^^ BitVec.ofInt k.bits b).toNat)) else .no
  | .eql, .int k a, .int k' b => if k = k' then .ok (.bool (a == b)) else .no
  | .neq, .int k a, .int k' b => if k = k' then .ok (.bool (a != b)) else .no
  | .lss, .int k a, .int k' b => if k = k' then .ok (.bool (decide (a < b))) else .no
  | .leq, .int k a, .int k' b => if k = k' then .ok (.bool (decide (a ≤ b))) else .no
  | .gtr, .int k a, .int k' b => if k = k' then .ok (.bool (decide (b < a))) else .no
  | .geq, .int k a, .int k' b => if k = k' then .ok (.bool (decide (b ≤ a))) else .no
  | .add, .string a, .string b => .need ((sl a).length + (sl b).length ≤ 9223372036854775807) (str (sl a ++ sl b))
  | .eql, .string a, .string b => .ok (.bool (sl a == sl b))
  | .neq, .string a, .string b => .ok (.bool (!(sl a == sl b)))
  | .lss, .string a, .string b => .ok (.bool (Op.bytesLess (sl a) (sl b)))
  | .leq, .string a, .string b => .ok (.bool (Op.bytesLess (sl a) (sl b) || sl a == sl b))
  | .gtr, .string a, .string b => .ok (.bool (!(Op.bytesLess (sl a) (sl b) || sl a == sl b)))
  | .geq, .string a, .string b => .ok (.bool (!Op.bytesLess (sl a) (sl b)))
  | .eql, .bool a, .bool b => eqD (T t) .bool (.bool (a == b))
  | .neq, .bool a, .bool b => eqD (T t) .bool (.bool (!(a == b)))
  | .eql, .slice a _ _, .slice none _ _ => eqD (T t) .slice (.bool a.isNone)
  | .neq, .slice a _ _, .slice none _ _ => eqD (T t) .slice (.bool (!a.isNone))
  | .eql, .iface _ _, .nilIface => eqD (T t) .iface (.bool false)
  | .neq, .iface _ _, .nilIface => eqD (T t) .iface (.bool true)
  | _, _, _ => .no
def unR (op : UnOp) (x : Value) : Out :=
  match op, x with
  | .neg, .int k n => .ok (.int k (k.wrap (0 - n)))
  | .not, .bool b => .ok (.bool !b)
  | _, _ => .no
/-- Where a slice of something of n elements begins and ends. -/
def loOf : Option Value → Option Int
  | none => some 0
  | some (.int _ i) => some i
  | some _ => none
def hiOf (n : Nat) : Option Value → Option Int
  | none => some n
  | some (.int _ i) => some i
  | some _ => none
/-- Where a slice of a slice begins (at the end of the whole its address does not move). -/
def offAt (o a m sz : Nat) : Nat := if m = a then o else o + a * sz
def sliceD (x : Value) (lo hi mx : Option Value) (d : Option TI) : Out :=
  match x with
  | .string s => match d, loOf lo, hiOf (sl s).length hi, mx with
    | some ⟨.str, _, _⟩, some a, some b, none => .need (0 ≤ a ∧ a ≤ b ∧ b ≤ (sl s).length) (str (((sl s).take b.toNat).drop a.toNat))
    | _, _, _, _ => .no
  | .slice (some ⟨g, o, none⟩) n c => match d, loOf lo, hiOf n hi, mx with
    | some ⟨.slc _ sz _ _, _, _⟩, some a, some b, none => .need (0 ≤ a ∧ a ≤ b ∧ b ≤ n ∧ n ≤ c)
        (.slice (some ⟨g, offAt o a.toNat c sz, none⟩) (b.toNat - a.toNat) (c - a.toNat))
    | some ⟨.slc _ sz _ _, _, _⟩, some a, some b, some (.int _ m) => .need (0 ≤ a ∧ a ≤ b ∧ b ≤ m ∧ m ≤ c ∧ hi ≠ none)
        (.slice (some ⟨g, offAt o a.toNat m.toNat sz, none⟩) (b.toNat - a.toNat) (m.toNat - a.toNat))
    | _, _, _, _ => .no
  | .pointer (some ⟨g, o, none⟩) => match d, loOf lo, mx with
    | some ⟨.arr n sz _, _, _⟩, some a, none => match hiOf n hi with
      | some b => .need (0 ≤ a ∧ a ≤ b ∧ b ≤ n) (.slice (some ⟨g, offAt o a.toNat n sz, none⟩) (b.toNat - a.toNat) (n - a.toNat))
      | none => .no
    | _, _, _ => .no
  | _ => .no
def sliceR (T : Tab) (t : TypeId) (x : Value) (lo hi mx : Option Value) : Out := sliceD x lo hi mx (T t)
def partR (cs : List Value) (off sz : Nat) (agg : Bool) : Option Value :=
  if agg then some (.agg ((cs.drop off).take sz).toArray) else cs[off]?
def idxD (x i : Value) (d : Option TI) : Out :=
  match x, i, d with
  | .string s, .int _ i, some ⟨.str, _, _⟩ => .need (0 ≤ i ∧ i < (sl s).length) (.int .u8 ((sl s).getD i.toNat 0).toNat)
  | .agg cs, .int _ i, some ⟨.arr n sz g, _, _⟩ => match partR cs.toList (i.toNat * sz) sz g with
    | some v => .need (0 ≤ i ∧ i < n) v
    | none => .no
  | _, _, _ => .no
def idxR (T : Tab) (t : TypeId) (x i : Value) : Out := idxD x i (T t)
def idxAddrD (x i : Value) (d : Option TI) : Out :=
  match x, i, d with
  | .slice (some ⟨g, o, none⟩) n _, .int _ i, some ⟨.slc _ sz _ _, _, _⟩ => .need (0 ≤ i ∧ i < n) (.pointer (some ⟨g, o + i.toNat * sz, none⟩))
  | .pointer (some ⟨g, o, none⟩), .int _ i, some ⟨.arr n sz _, _, _⟩ => .need (0 ≤ i ∧ i < n) (.pointer (some ⟨g, o + i.toNat * sz, none⟩))
  | _, _, _ => .no
def idxAddrR (T : Tab) (t : TypeId) (x i : Value) : Out := idxAddrD x i (T t)
def fieldAddrD (x : Value) (f : Nat) (d : Option TI) : Out :=
  match x, d with
  | .pointer (some ⟨g, o, none⟩), some ⟨.strct fs, _, _⟩ => match fs[f]? with
    | some (off, sz, _) => .need (sz ≠ 0) (.pointer (some ⟨g, o + off, none⟩))
    | none => .no
  | _, _ => .no
def fieldAddrR (T : Tab) (t : TypeId) (x : Value) (f : Nat) : Out := fieldAddrD x f (T t)
def fieldD (x : Value) (f : Nat) (d : Option TI) : Out :=
  match x, d with
  | .agg cs, some ⟨.strct fs, _, _⟩ => match fs[f]? with
    | some (off, sz, g) => match partR cs.toList off sz g with
      | some v => .ok v
      | none => .no
    | none => .no
  | _, _ => .no
def fieldR (T : Tab) (t : TypeId) (x : Value) (f : Nat) : Out := fieldD x f (T t)
def convD (x : Value) (s d : Option TI) : Out :=
  match x, s, d with
  | .int _ n, some ⟨.int _, _, _⟩, some ⟨.int k, _, _⟩ => .ok (.int k (k.wrap n))
  | .string x, some ⟨.str, _, _⟩, some ⟨.str, _, _⟩ => .ok (.string x)
  | .int _ n, some ⟨.int _, _, _⟩, some ⟨.str, _, _⟩ => .ok (.string (Utf8.encode n))
  | _, _, _ => .no
def convR (T : Tab) (s d : TypeId) (x : Value) : Out := convD x (T s) (T d)
def outOpt : Option Value → Out
  | some v => .ok v
  | none => .no
def extR (x : Value) (i : Nat) : Out :=
  match x with
  | .tuple vs => outOpt vs[i]?
  | _ => .no
def lenD (x : Value) (d : Option TI) : Out :=
  match x, d with
  | .string s, some ⟨.str, _, _⟩ => .ok (.int .i64 (sl s).length)
  | .slice _ n _, some ⟨.slc _ _ _ _, _, _⟩ => .ok (.int .i64 n)
  | _, some ⟨.arr n _ _, _, _⟩ => .ok (.int .i64 n)
  | _, _ => .no
def lenR (T : Tab) (t : TypeId) (x : Value) : Out := lenD x (T t)
def minR : List Value → Out
  | [.int k x, .int _ y] => .ok (.int k (if y < x then y else x))
  | _ => .no
def maxR : List Value → Out
  | [.int k x, .int _ y] => .ok (.int k (if x < y then y else x))
  | _ => .no
def pickR (c a b : Value) : Out :=
  match c with
  | .bool t => .ok (if t then a else b)
  | _ => .no
def nilR (x : Value) : Out :=
  match x with
  | .pointer (some a) => .ok (.pointer (some a))
  | .func (.func f) x y => .ok (.func (.func f) x y)
  | .slice a n c => .ok (.slice a n c)
  | _ => .no
def ifaceD (t : TypeId) (x : Value) (d : Option TI) : Out :=
  match d with
  | some ⟨.iface, _, _⟩ => .no
  | some _ => .ok (.iface t x)
  | none => .no
def ifaceR (T : Tab) (t : TypeId) (x : Value) : Out := ifaceD t x (T t)
def Out.Is (r : Out) (P : Program) (s : Sem Value) : Prop :=
  match r with
  | .ok v => ∀ w, s.run P w = .ok v w
  | .need p v => p → ∀ w, s.run P w = .ok v w
  | .no => True
set_option linter.unusedSimpArgs false
theorem equalIn_bool (P : Program) {t : TypeId} (h : P.underlying t = some .bool) (n : Nat) (a b : Bool) (w : World) : (Op.equalIn (n + 1) t (.bool a) (.bool b)).run P w = .ok (a == b) w := by
  simp only [Op.equalIn, Sem.run_bind, run_underlying h, Result.andThen_ok, Sem.run_pure]
theorem equalIn_slice (P : Program) {t e : TypeId} (h : P.underlying t = some (.slice e)) (k : Nat) (a : Option Addr) (n c n' c' : Nat) (w : World) : (Op.equalIn (k + 1) t (.slice a n c) (.slice none n' c')).run P w = .ok a.isNone w := by
  cases a <;> simp only [Op.equalIn, Sem.run_bind, run_underlying h, Result.andThen_ok, Sem.run_pure] <;> rfl
theorem equalIn_iface (P : Program) {t : TypeId} {ms : Array (String × TypeId)} (h : P.underlying t = some (.interface ms)) (n : Nat) (d : TypeId) (v : Value) (w : World) : (Op.equalIn (n + 1) t (.iface d v) .nilIface).run P w = .ok false w := by
  simp only [Op.equalIn, Sem.run_bind, run_underlying h, Result.andThen_ok, Sem.run_pure]
theorem equal_bool (P : Program) {t : TypeId} (h : P.underlying t = some .bool) (a b : Bool) (w : World) : (Op.equal t (.bool a) (.bool b)).run P w = .ok (a == b) w := equalIn_bool P h 9999 a b w
theorem equal_slice (P : Program) {t e : TypeId} (h : P.underlying t = some (.slice e)) (a : Option Addr) (n c n' c' : Nat) (w : World) : (Op.equal t (.slice a n c) (.slice none n' c')).run P w = .ok a.isNone w := equalIn_slice P h 9999 a n c n' c' w
theorem equal_iface (P : Program) {t : TypeId} {ms : Array (String × TypeId)} (h : P.underlying t = some (.interface ms)) (d : TypeId) (v : Value) (w : World) : (Op.equal t (.iface d v) .nilIface).run P w = .ok false w := equalIn_iface P h 9999 d v w
def EqK.fits (k : EqK) (d : TD) : Prop :=
  match d, k with
  | .bool, .bool | .slc _ _ _ _, .slice | .iface, .iface => True
  | _, _ => False
theorem eqD_is {P : Program} {s : Sem Value} {d : Option TI} {k : EqK} {v : Value} (h : ∀ i, d = some i → k.fits i.d → ∀ w, s.run P w = .ok v w) : (eqD d k v).Is P s := by
  unfold eqD
  split
  · exact h _ rfl trivial
  · exact h _ rfl trivial
  · exact h _ rfl trivial
  · trivial
theorem bin_is (P : Program) (T : Tab) (hT : TabOk P T) (op : BinOp) (t : TypeId) (x y : Value) : (binR T op t x y).Is P (binOp op t x y) := by
  have hu : ∀ {t : TypeId} {i : TI}, T t = some i → i.d.ok P t := fun h => (hT _ _ h).1
  unfold binR
  split
  all_goals first
    | (refine eqD_is fun i hi hk w => ?_
       have h' := hu hi
       obtain ⟨d, _, _⟩ := i
       cases d <;> (first | exact hk.elim | skip)
       first
         | (simp [binOp, equal_bool P h']; done)
         | (simp [binOp, equal_slice P h'.1]; done)
         | (obtain ⟨_, h'⟩ := h'; simp [binOp, equal_iface P h']; done))
    | skip
  all_goals ((try split) <;> (try trivial) <;> (try simp only [Out.Is]) <;> (try intro hp) <;> (try intro w))
  all_goals (try subst_vars)
  all_goals (first
    | (simp [binOp, Op.intArith, Op.intDiv, Op.intBits, Op.intCmp, Op.shift, hp]; done)
    | (simp [binOp, Op.intArith, Op.intDiv, Op.intBits, Op.intCmp, Op.shift]; done)
    | (simp [binOp, Op.shift, Int.not_lt.2 hp]; done)
    | (simp [binOp, Op.stringOp, sl, ByteArray.toList_eq, str]; done)
    | skip)
  case h_17 =>
    rename_i a b
    have hx : ¬ (((a.size + b.size : Nat) : Int) > IntKind.i64.max) := by
      have h1 : (sl a).length = a.size := rfl
      have h2 : (sl b).length = b.size := rfl
      have h3 : IntKind.i64.max = 9223372036854775807 := rfl
      omega
    have hs : a ++ b = (⟨⟨sl a ++ sl b⟩⟩ : ByteArray) := by
      apply ByteArray.ext
      simp [sl]
    simp only [binOp, Op.stringOp, str, hs, if_neg hx, Sem.run_pure]
theorem un_is (P : Program) (op : UnOp) (x : Value) : (unR op x).Is P (Op.unary op x) := by
  unfold unR
  split <;> simp [Out.Is, Op.unary, Op.intArith]
theorem ext_is (P : Program) (x : Value) (i : Nat) : (extR x i).Is P (Instr.extract x i) := by
  unfold extR
  split
  · rename_i vs
    cases h : vs[i]? with
    | some v => simp [outOpt, Out.Is, Instr.extract, h]
    | none => trivial
  · trivial
theorem conv_is (P : Program) (T : Tab) (hT : TabOk P T) (s d : TypeId) (x : Value) : (convR T s d x).Is P (convert s d x) := by
  have hu : ∀ {t : TypeId} {i : TI}, T t = some i → i.d.ok P t := fun h => (hT _ _ h).1
  unfold convR convD
  split
  · rename_i h1 h2; have h1 := hu h1; have h2 := hu h2; simp only [TD.ok] at h1 h2; simp [Out.Is, convert, run_underlying h1, run_underlying h2, Conv.intToInt]
  · rename_i h1 h2; have h1 := hu h1; have h2 := hu h2; simp only [TD.ok] at h1 h2; simp [Out.Is, convert, run_underlying h1, run_underlying h2]
  · rename_i h1 h2; have h1 := hu h1; have h2 := hu h2; simp only [TD.ok] at h1 h2; simp [Out.Is, convert, run_underlying h1, run_underlying h2, Conv.intToString]
  · trivial
theorem len_is (P : Program) (T : Tab) (hT : TabOk P T) (t r : TypeId) (x : Value) : (lenR T t x).Is P (Builtin.len_ #[t] r #[x]) := by
  have hu : ∀ {t : TypeId} {i : TI}, T t = some i → i.d.ok P t := fun h => (hT _ _ h).1
  unfold lenR lenD
  split
  · rename_i h1; have h1 := hu h1; simp only [TD.ok] at h1; simp [Out.Is, Builtin.len_, run_underlying h1, goInt, sl]
  · rename_i h1; have h1 := (hu h1).1; simp [Out.Is, Builtin.len_, run_underlying h1, goInt]
  · rename_i h1; obtain ⟨e, h1, _⟩ := hu h1; simp [Out.Is, Builtin.len_, run_underlying h1, goInt]
  · trivial
theorem min_is (P : Program) (ts : Array TypeId) (r : TypeId) (l : List Value) : (minR l).Is P (Builtin.min_ ts r l.toArray) := by
  unfold minR
  split
  · simp [Out.Is, Builtin.min_, Builtin.min2]
  · trivial
theorem max_is (P : Program) (ts : Array TypeId) (r : TypeId) (l : List Value) : (maxR l).Is P (Builtin.max_ ts r l.toArray) := by
  unfold maxR
  split
  · simp [Out.Is, Builtin.max_, Builtin.max2]
  · trivial
theorem pick_is (P : Program) (c a b : Value) : (pickR c a b).Is P (do pure (if ← asBool c then a else b)) := by
  unfold pickR
  split
  · simp [Out.Is, asBool]
  · trivial
theorem iface_is (P : Program) (T : Tab) (hT : TabOk P T) (t : TypeId) (x : Value) : (ifaceR T t x).Is P (Instr.makeInterface t x) := by
  have hu : ∀ {t : TypeId} {i : TI}, T t = some i → i.d.ok P t := fun h => (hT _ _ h).1
  unfold ifaceR ifaceD
  split
  · trivial
  · rename_i i h0 h
    intro w
    have h1 := hu h
    obtain ⟨d, s, z⟩ := i
    cases d <;> simp only [TD.ok] at h1
    case iface => exact absurd rfl (h0 s z)
    case flat =>
      obtain ⟨d, h1, h2⟩ := h1
      simp only [Instr.makeInterface, Sem.run_bind, run_underlying h1, Result.andThen_ok]
      cases d <;> first | rfl | cases h2
    case func => obtain ⟨_, _, _, h1⟩ := h1; simp [Instr.makeInterface, run_underlying h1]
    case slc => obtain ⟨h1, _⟩ := h1; simp [Instr.makeInterface, run_underlying h1]
    case strct => obtain ⟨_, h1, _⟩ := h1; simp [Instr.makeInterface, run_underlying h1]
    case arr => obtain ⟨_, h1, _⟩ := h1; simp [Instr.makeInterface, run_underlying h1]
    all_goals simp [Instr.makeInterface, run_underlying h1]
  · trivial
theorem bound_is (P : Program) (k : IntKind) (i : Int) (y : Nat) (c : BoundsCode) (w : World) (h : 0 ≤ i ∧ i ≤ y) : (Instr.sliceBound (.int k i) y c).run P w = .ok i.toNat w := by
  simp [Instr.sliceBound, asIntOf, h]
theorem bounds_is (P : Program) (isS : Bool) (n c : Nat) (lo hi : Option Value) (a b : Int) (ha : loOf lo = some a) (hb : hiOf n hi = some b) (h : 0 ≤ a ∧ a ≤ b ∧ b ≤ n ∧ n ≤ c) (w : World) :
    (Instr.sliceBounds isS n c lo hi none).run P w = .ok (a.toNat, b.toNat, c) w := by
  have h1 : (match hi with | some v => Instr.sliceBound v c (if isS then .sliceAcap else .sliceAlen) | none => pure n : Sem Nat).run P w = .ok b.toNat w := by
    cases hi with
    | none => simp only [hiOf, Option.some.injEq] at hb; subst hb; simp
    | some v =>
      cases v <;> simp only [hiOf, Option.some.injEq, reduceCtorEq] at hb
      subst hb
      exact bound_is P _ _ _ _ w ⟨by omega, by omega⟩
  have h2 : (match lo with | some v => Instr.sliceBound v b.toNat .sliceB | none => pure 0 : Sem Nat).run P w = .ok a.toNat w := by
    cases lo with
    | none => simp only [loOf, Option.some.injEq] at ha; subst ha; simp
    | some v =>
      cases v <;> simp only [loOf, Option.some.injEq, reduceCtorEq] at ha
      subst ha
      exact bound_is P _ _ _ _ w ⟨by omega, by omega⟩
  unfold Instr.sliceBounds
  cases hi with
  | none => cases lo <;> simp_all
  | some v => cases lo <;> simp_all
theorem bounds3_is (P : Program) (n c : Nat) (lo hi : Option Value) (k : IntKind) (a b m : Int) (ha : loOf lo = some a) (hb : hiOf n hi = some b) (h : 0 ≤ a ∧ a ≤ b ∧ b ≤ m ∧ m ≤ c ∧ hi ≠ none) (w : World) :
    (Instr.sliceBounds true n c lo hi (some (.int k m))).run P w = .ok (a.toNat, b.toNat, m.toNat) w := by
  have h0 := bound_is P k m c .slice3Acap w ⟨by omega, by omega⟩
  have h2 : (match lo with | some v => Instr.sliceBound v b.toNat .slice3C | none => pure 0 : Sem Nat).run P w = .ok a.toNat w := by
    cases lo with
    | none => simp only [loOf, Option.some.injEq] at ha; subst ha; simp
    | some v =>
      cases v <;> simp only [loOf, Option.some.injEq, reduceCtorEq] at ha
      subst ha
      exact bound_is P _ _ _ _ w ⟨by omega, by omega⟩
  unfold Instr.sliceBounds
  cases hi with
  | none => exact absurd rfl h.2.2.2.2
  | some v =>
    cases v <;> simp only [hiOf, Option.some.injEq, reduceCtorEq] at hb
    rename_i kb nb
    subst hb
    have h1 := bound_is P kb nb m.toNat .slice3B w ⟨by omega, by omega⟩
    cases lo <;> simp_all
theorem addr_add (g o k : Nat) : (⟨g, o, none⟩ : Addr).add k = ⟨g, o + k, none⟩ := by
  unfold Addr.add
  split
  · rename_i h; subst h; rfl
  · rfl
theorem extract_sl (s : ByteArray) (a b : Nat) : s.extract a b = (⟨⟨((sl s).take b).drop a⟩⟩ : ByteArray) := by
  apply ByteArray.ext
  apply Array.ext'
  simp [sl, ByteArray.data_extract, Array.toList_extract, List.extract_eq_take_drop, List.drop_take]
theorem slice_is (P : Program) (T : Tab) (hT : TabOk P T) (t : TypeId) (x : Value) (lo hi mx : Option Value) : (sliceR T t x lo hi mx).Is P (Instr.sliceAt t x lo hi mx) := by
  have hu : ∀ {t : TypeId} {i : TI}, T t = some i → i.d.ok P t := fun h => (hT _ _ h).1
  unfold sliceR sliceD
  split
  · rename_i s
    split
    · rename_i a b h1 ha hb
      have h1 := hu h1; simp only [TD.ok] at h1
      intro hp w
      have hs : (sl s).length = s.size := rfl
      rw [hs] at hb hp
      simp only [Instr.sliceAt, Instr.slice, Sem.run_bind, run_underlying h1, Result.andThen_ok, Option.isSome_none, Bool.false_eq_true, if_false, bounds_is P false s.size s.size lo hi a b ha hb ⟨hp.1, hp.2.1, hp.2.2, Nat.le_refl _⟩ w, Sem.run_pure, extract_sl, str]
    · trivial
  · split
    · rename_i a b h1 ha hb
      obtain ⟨h1, I, h2, h3, _⟩ := hu h1
      intro hp w
      simp only [Instr.sliceAt, Instr.slice, Sem.run_bind, run_underlying h1, Result.andThen_ok, bounds_is P true _ _ lo hi a b ha hb hp w, Sem.run_pure, sizeOf, typeInfo, run_program, h2, h3, offAt, Option.map_some, addr_add]
      split <;> rfl
    · rename_i a b kk m h1 ha hb
      obtain ⟨h1, I, h2, h3, _⟩ := hu h1
      intro hp w
      simp only [Instr.sliceAt, Instr.slice, Sem.run_bind, run_underlying h1, Result.andThen_ok, bounds3_is P _ _ lo hi _ a b m ha hb hp w, Sem.run_pure, sizeOf, typeInfo, run_program, h2, h3, offAt, Option.map_some, addr_add]
      split <;> rfl
    · trivial
  · split
    · rename_i n sz _ _ _ a h1 ha
      obtain ⟨e, h1, ⟨I, h2, h3⟩, _⟩ := hu h1
      split
      · rename_i b hb
        intro hp w
        simp only [Instr.sliceAt, Sem.run_bind, run_underlying h1, Result.andThen_ok, Instr.sureAddr, bounds_is P false n n lo hi a b ha hb ⟨hp.1, hp.2.1, hp.2.2, Nat.le_refl _⟩ w, Sem.run_pure, sizeOf, typeInfo, run_program, h2, h3, offAt, addr_add]
        split <;> rfl
      · trivial
    · trivial
  · trivial
theorem part_is (P : Program) (t : TypeId) {g : Bool} {off sz : Nat} {cs : Array Value} {v : Value} (hg : aggOf P t = g) (hu : (P.underlying t).isSome = true) {I : TypeInfo} (hI : P.info? t = some I) (hs : I.size = sz)
    (h : partR cs.toList off sz g = some v) (w : World) : (part t cs off).run P w = .ok v w := by
  obtain ⟨d, hd⟩ := Option.isSome_iff_exists.1 hu
  have ha : (isAgg t).run P w = .ok g w := by
    unfold aggOf at hg
    rw [hd] at hg
    subst hg
    simp only [isAgg, Sem.run_bind, run_underlying hd, Result.andThen_ok]
    cases d <;> rfl
  unfold partR at h
  cases g with
  | true =>
    rw [if_pos rfl] at h
    injection h with h
    subst h
    simp only [part, Sem.run_bind, ha, Result.andThen_ok, if_pos, sizeOf, typeInfo, run_program, hI, Sem.run_pure, hs]
    congr 2
    apply Array.ext'
    simp [Array.toList_extract, List.extract_eq_take_drop]
  | false =>
    rw [if_neg (by simp)] at h
    have h' : cs[off]? = some v := by rw [← Array.getElem?_toList]; exact h
    simp only [part, Sem.run_bind, ha, Result.andThen_ok, Bool.false_eq_true, if_false, h', Sem.run_pure]
theorem idx_is (P : Program) (T : Tab) (hT : TabOk P T) (t : TypeId) (x i : Value) : (idxR T t x i).Is P (Instr.index t x i) := by
  have hu : ∀ {t : TypeId} {i : TI}, T t = some i → i.d.ok P t := fun h => (hT _ _ h).1
  unfold idxR idxD
  split
  · rename_i s k i a b h1
    have h1 := hu h1; simp only [TD.ok] at h1
    intro hp w
    have hl : i.toNat < s.size := by have : (sl s).length = s.size := rfl; omega
    have e1 : s[i.toNat]? = some (s[i.toNat]'hl) := by simp [hl]
    have e2 : (sl s).getD i.toNat 0 = s[i.toNat]'hl := by
      unfold sl
      rw [List.getD_eq_getElem?_getD, List.getElem?_eq_getElem (by simpa using hl)]
      rfl
    simp only [Instr.index, asIntOf, Sem.run_bind, Sem.run_pure, run_underlying h1, Result.andThen_ok, if_pos hp.1, e1, e2]
  · split
    · rename_i cs k i n sz g _ _ h1 _ v hv
      obtain ⟨e, h1, ⟨I, h2, h3⟩, h4, h5⟩ := hu h1
      intro hp w
      simp only [Instr.index, asIntOf, Sem.run_bind, Sem.run_pure, run_underlying h1, Result.andThen_ok, if_pos hp, sizeOf, typeInfo, run_program, h2, h3]
      exact part_is P e h4 h5 h2 h3 hv w
    · trivial
  · trivial
theorem idxAddr_is (P : Program) (T : Tab) (hT : TabOk P T) (t : TypeId) (x i : Value) : (idxAddrR T t x i).Is P (Instr.indexAt t x i) := by
  have hu : ∀ {t : TypeId} {i : TI}, T t = some i → i.d.ok P t := fun h => (hT _ _ h).1
  unfold idxAddrR idxAddrD
  split
  · rename_i h1
    obtain ⟨h1, I, h2, h3, _⟩ := hu h1
    intro hp w
    simp [Instr.indexAt, asIntOf, run_underlying h1, hp, sizeOf, typeInfo, h2, h3, Addr.add]
  · rename_i h1
    obtain ⟨e, h1, ⟨I, h2, h3⟩, _⟩ := hu h1
    intro hp w
    simp [Instr.indexAt, asIntOf, run_underlying h1, hp, sizeOf, typeInfo, h2, h3, Instr.sureAddr, Addr.add]
  · trivial
theorem fieldAddr_is (P : Program) (T : Tab) (hT : TabOk P T) (t : TypeId) (x : Value) (f : Nat) : (fieldAddrR T t x f).Is P (Instr.fieldAt t x f) := by
  have hu : ∀ {t : TypeId} {i : TI}, T t = some i → i.d.ok P t := fun h => (hT _ _ h).1
  unfold fieldAddrR fieldAddrD
  split
  · split
    · rename_i h1 _ _ _ _ h4
      obtain ⟨F, h1, h2, h3⟩ := hu h1
      intro hp w
      rw [← h2, List.getElem?_map] at h4
      obtain ⟨fd, hf, he⟩ := Option.map_eq_some_iff.1 h4
      injection he with e1 e2
      injection e2 with e2 e3
      have hf' : F[f]? = some fd := by rw [← Array.getElem?_toList]; exact hf
      have hi := (h3 fd (List.mem_of_getElem? hf)).1
      obtain ⟨I, hI⟩ := Option.isSome_iff_exists.1 hi
      have hs : I.size ≠ 0 := by
        have : P.cellsOf fd.type = I.size := by simp [Program.cellsOf, hI]
        omega
      simp [Instr.fieldAt, run_underlying h1, hf', Instr.sureAddr, fieldPlace, sizeOf, typeInfo, hI, hs, addr_add, e1]
    · trivial
  · trivial
theorem field_is (P : Program) (T : Tab) (hT : TabOk P T) (t : TypeId) (x : Value) (f : Nat) : (fieldR T t x f).Is P (Instr.field t x f) := by
  have hu : ∀ {t : TypeId} {i : TI}, T t = some i → i.d.ok P t := fun h => (hT _ _ h).1
  unfold fieldR fieldD
  split
  · rename_i cs fs _ _ h1
    obtain ⟨F, h1, h2, h3⟩ := hu h1
    split
    · rename_i off sz g h4
      split
      · rename_i v hv
        intro w
        rw [← h2, List.getElem?_map] at h4
        obtain ⟨fd, hf, he⟩ := Option.map_eq_some_iff.1 h4
        injection he with e1 e2
        injection e2 with e2 e3
        have hf' : F[f]? = some fd := by rw [← Array.getElem?_toList]; exact hf
        obtain ⟨hi, hj⟩ := h3 fd (List.mem_of_getElem? hf)
        obtain ⟨I, hI⟩ := Option.isSome_iff_exists.1 hi
        have hs : I.size = sz := by rw [← e2]; simp [Program.cellsOf, hI]
        simp only [Instr.field, Sem.run_bind, run_underlying h1, Result.andThen_ok, hf', asAgg, Sem.run_pure, e1]
        exact part_is P fd.type e3 hj hI hs hv w
      · trivial
    · trivial
  · trivial
end Go.Proofs.YthpcojnpiggaiaaGreat
/-! The calculus, continued: operations that read or write memory. -/
namespace Go.Proofs.YthpcojnpiggaiaaGreat
open Go
set_option linter.unusedSimpArgs false

/-! ### Memory as told -/
theorem put_same (M : Mem) (b : Nat) (B : Blk) : (M.put b B) b = some B := by simp [Mem.put]
theorem put_ne (M : Mem) {b i : Nat} (B : Blk) (h : i ≠ b) : (M.put b B) i = M i := by simp [Mem.put, h]
theorem put_none {M : Mem} {b i : Nat} {B : Blk} : (M.put b B) i = none ↔ i ≠ b ∧ M i = none := by
  unfold Mem.put; split <;> simp_all
/-- A block's content told anew. -/
def Mem.set (M : Mem) (b : Nat) (B : Blk) : Mem := M.put b B
theorem set_same (M : Mem) (b : Nat) (B B' : Blk) : (M.put b B).set b B' = M.put b B' := by
  funext i; simp only [Mem.set, Mem.put]; split <;> rfl
theorem set_ne (M : Mem) {b g : Nat} (B B' : Blk) (h : g ≠ b) : (M.put b B).set g B' = (M.set g B').put b B := by
  funext i; simp only [Mem.set, Mem.put]; split <;> (try split) <;> (try rfl); subst_vars; exact absurd rfl h
theorem set_set (M : Mem) (b : Nat) (B B' : Blk) : (M.set b B).set b B' = M.set b B' := set_same M b B B'
theorem del_same (M : Mem) (b : Nat) (B : Blk) (h : M b = none) : (M.put b B).del b = M := by
  funext i; simp only [Mem.del, Mem.put]; split
  · subst_vars; exact h.symm
  · rfl
theorem del_ne (M : Mem) {b g : Nat} (B : Blk) (h : g ≠ b) : (M.put b B).del g = (M.del g).put b B := by
  funext i; simp only [Mem.del, Mem.put]; split <;> (try split) <;> (try rfl); subst_vars; exact absurd rfl h
theorem Rep.fresh {M : Mem} {w : World} (h : Rep M w) {b : Nat} (hb : w.heap.size ≤ b) : M b = none := by
  cases hM : M b with
  | none => rfl
  | some B =>
    have := h b B hM
    have hn : w.heap[b]? = none := Array.getElem?_eq_none hb
    cases B with
    | cells own xs tot => obtain ⟨c, e, fr, h1, _⟩ := this; rw [hn] at h1; cases h1
    | obj o => have h1 := this.1; rw [hn] at h1; cases h1
theorem Blk.holds_of {w w' : World} {b : Nat} (h : w'.heap[b]? = w.heap[b]?) {B : Blk} (hB : B.holds w b) : B.holds w' b := by
  cases B with
  | cells own xs tot => simp only [Blk.holds] at *; rw [h]; exact hB
  | obj o => simp only [Blk.holds] at *; rw [h]; exact hB
/-- The first cells of a block from a place on. -/
def Mem.sub? (M : Mem) (b o n : Nat) : Option (List Value) :=
  match M b with
  | some (.cells _ xs _) => if o + n ≤ xs.length then some ((xs.drop o).take n) else none
  | _ => none
theorem Rep.sub? {M : Mem} {w : World} (h : Rep M w) {b o n : Nat} {l : List Value} (hl : M.sub? b o n = some l) : l.length = n ∧ ∀ j v, l[j]? = some v → w.cell? ⟨b, o + j, none⟩ = some v := by
  unfold Mem.sub? at hl
  split at hl
  · rename_i own xs tot hM
    split at hl
    · rename_i hle
      injection hl with hl
      subst hl
      refine ⟨by rw [List.length_take, List.length_drop]; omega, fun j v hv => h.cell ?_⟩
      have hj : j < n := by
        rcases Nat.lt_or_ge j n with h | h
        · exact h
        · rw [List.getElem?_eq_none (by rw [List.length_take]; omega)] at hv; cases hv
      rw [List.getElem?_take_of_lt hj, List.getElem?_drop] at hv
      simp [Mem.get?, hM, hv]
    · cases hl
  · cases hl

/-! ### Programs of the machine's own -/
def SemTo (P : Program) {α : Type} (s : Sem α) (M : Mem) (K : α → Mem → Prop) : Prop :=
  ∀ w, Rep M w → ∃ a w' M', s.run P w = .ok a w' ∧ Rep M' w' ∧ Ext M w M' w' ∧ K a M'
section
variable {P : Program} {α β : Type} {M : Mem}
theorem semTo_run {s : Sem α} {K : α → Mem → Prop} (a : α) (h : ∀ w, Rep M w → s.run P w = .ok a w) (hk : K a M) : SemTo P s M K :=
  fun w hw => ⟨a, w, M, h w hw, hw, Ext.refl _ _, hk⟩
theorem semTo_pure {K : α → Mem → Prop} {a : α} (hk : K a M) : SemTo P (pure a) M K := semTo_run a (fun _ _ => rfl) hk
theorem semTo_bind {s : Sem α} {f : α → Sem β} {K : β → Mem → Prop} (h : SemTo P s M fun a M' => SemTo P (f a) M' K) : SemTo P (s >>= f) M K := by
  intro w hw
  obtain ⟨a, w1, M1, h1, h2, h3, h4⟩ := h w hw
  obtain ⟨b, w2, M2, k1, k2, k3, k4⟩ := h4 w1 h2
  exact ⟨b, w2, M2, by rw [Sem.run_bind, h1, Result.andThen_ok, k1], k2, h3.trans k3, k4⟩
/-- A new block. -/
theorem semTo_new {K : Nat → Mem → Prop} {cells : Array Value} {e' : TypeId} (h : ∀ b, M b = none → K b (M.put b (.cells true cells.toList cells.size))) : SemTo P (newObj (.cells cells e')) M K := by
  intro w hw
  have hf := hw.fresh (Nat.le_refl w.heap.size)
  refine ⟨w.heap.size, _, _, run_newObj P w _, ?_, ?_, h _ hf⟩
  · intro i B hB
    by_cases e : i = w.heap.size
    · subst e
      rw [put_same] at hB
      injection hB with hB
      subst hB
      exact ⟨cells, e', (0, 0), by simp, rfl, ⟨[], by simp⟩, fun _ => .inl rfl⟩
    · rw [put_ne _ _ e] at hB
      have hh := hw i B hB
      have hlt : i < w.heap.size := by
        rcases Nat.lt_or_ge i w.heap.size with h | h
        · exact h
        · rw [hw.fresh h] at hB; cases hB
      exact Blk.holds_of (w := w) (by simp [Array.getElem?_push, Nat.ne_of_lt hlt]) hh
  · refine ⟨rfl, rfl, rfl, by simp, fun i hi _ => by simp [Array.getElem?_push, Nat.ne_of_lt hi], fun i ⟨B, h1, h2⟩ => ?_⟩
    by_cases e : i = w.heap.size
    · exact .inr (by omega)
    · rw [put_ne _ _ e] at h1; exact .inl ⟨B, h1, h2⟩
theorem semTo_newRow {K : Addr → Mem → Prop} {cells : Array Value} {e : TypeId} (h : ∀ b, M b = none → K ⟨b, 0, none⟩ (M.put b (.cells true cells.toList cells.size))) : SemTo P (newRow e cells) M K := by
  unfold newRow
  exact semTo_bind (semTo_new fun b hb => semTo_pure (h b hb))
theorem semTo_choose {K : Nat → Mem → Prop} {q : Question} (hq : q.forced = false) (h : ∀ t, K (q.cut t) M) : SemTo P (choose q) M K := by
  intro w hw
  refine ⟨_, _, M, (run_choose P w q).trans (if_neg (by simp [hq])), ?_, ⟨rfl, rfl, rfl, Nat.le_refl _, fun _ _ _ => rfl, fun _ h => .inl h⟩, h _⟩
  intro b B hB
  exact Blk.holds_of (w := w) rfl (hw b B hB)
/-- The mark behind bytes made of a string: no cell is told by it. -/
theorem semTo_markStringish {K : Unit → Mem → Prop} {b : Nat} {xs : List Value} {tot : Nat} (hb : M b = some (.cells true xs tot)) (h : K () M) : SemTo P (markStringish ⟨b, 0, none⟩) M K := by
  intro w hw
  obtain ⟨c, e, fr, h1, h2, h3, h4⟩ := hw b _ hb
  have hs : w.shape? b = some (e, c.size) := by simp [World.shape?, h1]
  refine ⟨(), w.freeze ⟨b, c.size, none⟩ 1, M, by simp [markStringish, hs], ?_, ?_, h⟩
  · intro i B hB
    by_cases ei : i = b
    · subst ei
      rw [hb] at hB; injection hB with hB; subst hB
      refine ⟨c, e, if fr.1 == fr.2 then (c.size, c.size + 1) else (min fr.1 c.size, max fr.2 (c.size + 1)), ?_, h2, h3, fun ho => ?_⟩
      · simp only [World.freeze, Nat.one_ne_zero, if_false, Array.getElem?_modify, if_pos, h1, Option.map_some]
      · have := h4 ho
        split
        · right; show tot ≤ c.size; omega
        · rename_i hne
          simp only [beq_iff_eq] at hne
          right; show tot ≤ min fr.1 c.size; omega
    · exact Blk.holds_of (w := w) (by simp [World.freeze, Array.getElem?_modify, Ne.symm ei]) (hw i B hB)
  · refine ⟨rfl, rfl, rfl, by simp [World.freeze], fun i hi ho => ?_, fun _ h => .inl h⟩
    have ei : i ≠ b := fun e => ho (e ▸ ⟨_, hb, rfl⟩)
    simp [World.freeze, Array.getElem?_modify, Ne.symm ei]

def flatV : Value → Bool
  | .agg _ | .tuple _ => false
  | _ => true
theorem flat_one {v : Value} (h : flatV v = true) : v.oneCell' = true := by cases v <;> first | rfl | cases h
theorem flat_cells {v : Value} (h : flatV v = true) : v.cells = #[v] := by cases v <;> first | rfl | cases h
theorem Rep.notFrozen {M : Mem} {w : World} (h : Rep M w) {b : Nat} {xs : List Value} {tot i : Nat} (hb : M b = some (.cells true xs tot)) (hi : i < tot) : w.frozen? ⟨b, i, none⟩ = false := by
  obtain ⟨c, e, fr, h1, h2, h3, h4⟩ := h b _ hb
  have := h4 rfl
  simp only [World.frozen?, h1, Bool.and_eq_false_iff, decide_eq_false_iff_not]
  omega
/-- One cell of an own block is written, at a place told already or the next one. -/
theorem semTo_store {K : Unit → Mem → Prop} {b i : Nat} {v : Value} {xs : List Value} {tot : Nat} (hb : M b = some (.cells true xs tot)) (hi : i ≤ xs.length) (ht : i < tot) (hv : flatV v = true)
    (h : K () (M.set b (.cells true (xs.take i ++ v :: xs.drop (i + 1)) tot))) : SemTo P (store ⟨b, i, none⟩ v) M K := by
  intro w hw
  obtain ⟨c, e, fr, h1, h2, ⟨ys, h3⟩, h4⟩ := hw b _ hb
  have hlt : i < c.size := by omega
  have hcell : w.cell? ⟨b, i, none⟩ = some (c[i]'hlt) := by simp [World.cell?, h1, hlt]
  refine ⟨(), w.setCell ⟨b, i, none⟩ v, _, ?_, ?_, ?_, h⟩
  · rw [run_store _ _ _ _ _ (flat_one hv), hcell]
    simp [hw.notFrozen hb ht]
  · intro j B hB
    by_cases ej : j = b
    · subst ej
      unfold Mem.set at hB
      rw [put_same] at hB; injection hB with hB; subst hB
      refine ⟨c.setIfInBounds i v, e, fr, by simp only [World.setCell, Array.getElem?_modify, if_pos, h1, Option.map_some, Option.isSome_none, Bool.false_eq_true, if_false], by simpa using h2, ⟨(c.toList.drop (i + 1)).drop (xs.drop (i + 1)).length, ?_⟩, h4⟩
      rw [Array.toList_setIfInBounds, List.set_eq_take_append_cons_drop, if_pos (by simpa using hlt), h3]
      have e1 : (xs ++ ys).take i = xs.take i := List.take_append_of_le_length hi
      rw [e1, List.append_assoc, List.cons_append]
      congr 2
      by_cases hh : i < xs.length
      · have e2 : (xs ++ ys).drop (i + 1) = xs.drop (i + 1) ++ ys := List.drop_append_of_le_length (by omega)
        rw [e2, List.drop_left]
      · have e3 : xs.drop (i + 1) = [] := List.drop_eq_nil_of_le (by omega)
        rw [e3]; simp
    · unfold Mem.set at hB
      rw [put_ne _ _ ej] at hB
      exact Blk.holds_of (w := w) (by simp [World.setCell, Array.getElem?_modify, Ne.symm ej]) (hw j B hB)
  · refine ⟨rfl, rfl, rfl, by simp [World.setCell], fun j hj ho => ?_, fun j ⟨B, h1, h2⟩ => ?_⟩
    · have ej : j ≠ b := fun e => ho (e ▸ ⟨_, hb, rfl⟩)
      simp [World.setCell, Array.getElem?_modify, Ne.symm ej]
    · by_cases ej : j = b
      · subst ej; exact .inl ⟨_, hb, rfl⟩
      · unfold Mem.set at h1; rw [put_ne _ _ ej] at h1; exact .inl ⟨B, h1, h2⟩
theorem semTo_storeCells {K : Unit → Mem → Prop} {b o : Nat} : ∀ (vs : List Value) (i : Nat) (M : Mem) (xs : List Value) (tot : Nat), M b = some (.cells true xs tot) → o + i ≤ xs.length → o + i + vs.length ≤ tot → (∀ v ∈ vs, flatV v = true) →
    K () (M.set b (.cells true (xs.take (o + i) ++ vs ++ xs.drop (o + i + vs.length)) tot)) → SemTo P (storeCells ⟨b, o, none⟩ vs i) M K
  | [], i, M, xs, tot, hb, h1, h2, h3, hk => by
    unfold storeCells
    refine semTo_pure ?_
    have : M.set b (.cells true (xs.take (o + i) ++ [] ++ xs.drop (o + i + ([] : List Value).length)) tot) = M := by
      funext j
      simp only [Mem.set, Mem.put]
      split
      · subst_vars; rw [hb]; simp
      · rfl
    rw [this] at hk
    exact hk
  | v :: vs, i, M, xs, tot, hb, h1, h2, h3, hk => by
    unfold storeCells
    rw [List.length_cons] at h2
    rw [addr_add]
    refine semTo_bind (semTo_store hb h1 (by omega) (h3 v (by simp)) ?_)
    refine semTo_storeCells vs (i + 1) _ _ tot (put_same _ _ _) ?_ (by omega) (fun u hu => h3 u (by simp [hu])) ?_
    · simp only [List.length_append, List.length_take, List.length_cons, List.length_drop]; omega
    · rw [set_set]
      have e1 : (xs.take (o + i) ++ v :: xs.drop (o + i + 1)).take (o + (i + 1)) = xs.take (o + i) ++ [v] := by
        rw [List.take_append, List.take_of_length_le (by rw [List.length_take]; omega), List.length_take, Nat.min_eq_left h1, show o + (i + 1) - (o + i) = 1 by omega]
        simp
      have e2 : (xs.take (o + i) ++ v :: xs.drop (o + i + 1)).drop (o + (i + 1) + vs.length) = xs.drop (o + i + (vs.length + 1)) := by
        rw [List.drop_append, List.drop_eq_nil_of_le (by rw [List.length_take]; omega), List.length_take, Nat.min_eq_left h1, show o + (i + 1) + vs.length - (o + i) = vs.length + 1 by omega]
        simp [Nat.add_assoc, Nat.add_comm, Nat.add_left_comm]
      rw [e1, e2]
      simpa using hk
theorem run_info {t : TypeId} {I : TypeInfo} (h : P.info? t = some I) (w : World) : (typeInfo t).run P w = .ok I w := by simp [typeInfo, h]
theorem run_size {t : TypeId} {I : TypeInfo} (h : P.info? t = some I) (w : World) : (sizeOf t).run P w = .ok I.size w := by simp [sizeOf, run_info h]
theorem run_zero {t : TypeId} {I : TypeInfo} {z : Value} (h : P.info? t = some I) (hz : I.zero = some z) (w : World) : (zeroValue t).run P w = .ok z w := by simp [zeroValue, run_info h, hz]

/-! ### The operations -/
def aVal (b : Nat) : Value := .pointer (some ⟨b, 0, none⟩)
/-- A new block; its number is the memory's own choice. -/
def vNew (cells : List Value) (mk : Nat → Value) (K : Value → Mem → Prop) (M : Mem) : Prop := ∀ b, M b = none → K (mk b) (M.put b (.cells true cells cells.length))
/-- The like for a slice whose capacity is open. -/
def vNewC (cells : List Value) (K : Value → Mem → Prop) (M : Mem) : Prop :=
  ∀ b c, M b = none → cells.length ≤ c → K (.slice (some ⟨b, 0, none⟩) cells.length c) (M.put b (.cells true cells c))
theorem new_is (K : Value → Mem → Prop) (cells : Array Value) (e : TypeId) (mk : Addr → Value) (h : vNew cells.toList (fun b => mk ⟨b, 0, none⟩) K M) : SemTo P (do pure (mk (← newRow e cells))) M K :=
  semTo_bind (semTo_newRow fun b hb => semTo_pure (by have := h b hb; simpa using this))
def vBox (v : Value) (K : Value → Mem → Prop) (M : Mem) : Prop := vNew v.cells.toList aVal K M
theorem box_is (K : Value → Mem → Prop) (e : TypeId) (v : Value) (h : vBox v K M) : SemTo P (Instr.box e v) M K := by
  unfold Instr.box newVar
  refine semTo_bind (semTo_newRow fun b hb => semTo_pure ?_)
  have := h b hb; simpa [aVal] using this
def vAllocD (d : Option TI) (K : Value → Mem → Prop) (M : Mem) : Prop :=
  match d with
  | some i => vBox i.zero K M
  | none => False
def vAlloc (T : Tab) (t : TypeId) (K : Value → Mem → Prop) (M : Mem) : Prop := vAllocD (T t) K M
theorem alloc_is (T : Tab) (hT : TabOk P T) (K : Value → Mem → Prop) (e : TypeId) (v : Value) (h : vAlloc T e K M) : SemTo P (Instr.alloc e true v) M K := by
  unfold vAlloc vAllocD at h
  split at h
  · rename_i i hi
    obtain ⟨_, I, h1, h2, _⟩ := hT _ _ hi
    unfold Instr.alloc
    refine semTo_bind (semTo_run i.zero (fun w _ => run_zero h1 h2 w) ?_)
    exact box_is K e i.zero h
  · exact h.elim
def fillL (parts : List (Nat × Value)) (cells : List Value) : List Value := parts.foldl (fun cs p => cs.set p.1 p.2) cells
theorem fill_one : ∀ (parts : List (Nat × Value)) (cells : Array Value), (∀ p ∈ parts, p.1 < cells.size ∧ flatV p.2 = true) → Instr.fill (fun i => some (i * 1, 1)) cells parts = some (fillL parts cells.toList).toArray
  | [], cells, _ => by simp [Instr.fill, fillL]
  | (i, v) :: rest, cells, h => by
    have h0 := h (i, v) (by simp)
    simp only at h0
    have hc : v.cells = #[v] := flat_cells h0.2
    have ih := fill_one rest (cells.setIfInBounds i v) (fun p hp => by have := h p (by simp [hp]); simpa using this)
    have hz : (#[v].zipIdx).foldl (fun (cs : Array Value) (x : Value × Nat) => cs.setIfInBounds (i * 1 + x.2) x.1) cells = cells.setIfInBounds i v := by simp
    unfold Instr.fill
    simp only [hc]
    rw [if_neg (by simp; omega)]
    exact (congrArg (fun c => Instr.fill (fun i => some (i * 1, 1)) c rest) hz).trans (by rw [ih]; simp [fillL])

def vThen (p q : Prop) : Prop := p ∧ q
def vBd (p : Prop) (K : Value → Mem → Prop) (v : Value) (M : Mem) : Prop := p ∧ K v M
def vBuildSD (d : Option TI) (len : Nat) (parts : List (Nat × Value)) (K : Value → Mem → Prop) (M : Mem) : Prop :=
  match d with
  | some ⟨.slc _ 1 _ z, _, _⟩ => vThen (len ≤ 16777216 ∧ flatV z = true ∧ ∀ p ∈ parts, p.1 < len ∧ flatV p.2 = true)
      (vNew (fillL parts (List.replicate len z)) (fun b => .slice (some ⟨b, 0, none⟩) len len) K M)
  | _ => False
def vBuildS (T : Tab) (t : TypeId) (len : Nat) (parts : List (Nat × Value)) (K : Value → Mem → Prop) (M : Mem) : Prop := vBuildSD (T t) len parts K M
theorem rep_flat (z : Value) (hz : flatV z = true) (n : Nat) : ((Array.range n).map fun i => z.cells[i % z.cells.size]!) = (List.replicate n z).toArray := by
  rw [flat_cells hz]
  apply Array.ext'
  simp only [Array.toList_map, Array.toList_range]
  apply List.ext_getElem
  · simp
  · intro i h1 h2
    simp [Nat.mod_one]
theorem buildS_is (T : Tab) (hT : TabOk P T) (K : Value → Mem → Prop) (t : TypeId) (len : Nat) (parts : Array (Nat × Value)) (h : vBuildS T t len parts.toList K M) : SemTo P (Instr.buildSlice t len parts) M K := by
  unfold vBuildS vBuildSD at h
  split at h
  · rename_i e by_ z _ _ hi
    obtain ⟨⟨hl, hz, hp⟩, hk⟩ := h
    obtain ⟨⟨h1, I, h2, h3, h4, h5⟩, _⟩ := hT _ _ hi
    unfold Instr.buildSlice
    refine semTo_bind (semTo_run _ (fun w _ => run_underlying h1 w) ?_)
    dsimp only
    refine semTo_bind (semTo_run I.size (fun w _ => run_size h2 w) ?_)
    rw [h3, Nat.mul_one, if_neg (by omega)]
    have hf : ∀ (c0 : Array Value), c0.size = len → c0 = (List.replicate len z).toArray → Instr.fill (fun i => some (i * 1, 1)) c0 parts.toList = some (fillL parts.toList (List.replicate len z)).toArray := by
      intro c0 hc hc'
      have := fill_one parts.toList c0 (fun p hp' => by rw [hc]; exact hp p hp')
      rw [this, hc']
    by_cases hz0 : len = 0
    · rw [if_pos hz0]
      refine semTo_bind (semTo_pure ?_)
      rw [hf _ (by simp) (by subst hz0; simp)]
      dsimp only
      exact new_is K _ e (fun a => .slice (some a) len len) (by simpa using hk)
    · rw [if_neg hz0]
      refine semTo_bind (semTo_run z (fun w _ => run_zero h2 h5 w) (semTo_bind (semTo_pure ?_)))
      rw [hf _ (by simp) (rep_flat z hz len)]
      dsimp only
      exact new_is K _ e (fun a => .slice (some a) len len) (by simpa using hk)
  · exact h.elim
/-- A value is read. -/
def vGet (v : Option Value) (K : Value → Mem → Prop) (M : Mem) : Prop :=
  match v with
  | some v => K v M
  | none => False
def vGets (v : Option (List Value)) (K : Value → Mem → Prop) (M : Mem) : Prop :=
  match v with
  | some l => K (.agg l.toArray) M
  | none => False
def vLoadD (x : Value) (d : Option TI) (K : Value → Mem → Prop) (M : Mem) : Prop :=
  match x, d with
  | .pointer (some ⟨b, o, none⟩), some i => if i.d.agg then vGets (M.sub? b o i.size) K M else vGet (M.get? b o) K M
  | _, _ => False
def vLoad (T : Tab) (t : TypeId) (x : Value) (K : Value → Mem → Prop) (M : Mem) : Prop := vLoadD x (T t) K M
theorem isAgg_is (T : Tab) (hT : TabOk P T) {t : TypeId} {i : TI} (hi : T t = some i) (w : World) : (isAgg t).run P w = .ok i.d.agg w := by
  have h := (hT _ _ hi).1
  obtain ⟨d, s, z⟩ := i
  cases d <;> simp only [TD.ok] at h
  case flat =>
    obtain ⟨d, h1, h2⟩ := h
    simp only [isAgg, Sem.run_bind, run_underlying h1, Result.andThen_ok]
    cases d <;> first | rfl | cases h2
  case iface => obtain ⟨_, h⟩ := h; simp only [isAgg, Sem.run_bind, run_underlying h, Result.andThen_ok]; rfl
  case func => obtain ⟨_, _, _, h⟩ := h; simp only [isAgg, Sem.run_bind, run_underlying h, Result.andThen_ok]; rfl
  case slc => obtain ⟨h, _⟩ := h; simp only [isAgg, Sem.run_bind, run_underlying h, Result.andThen_ok]; rfl
  case strct => obtain ⟨_, h, _⟩ := h; simp only [isAgg, Sem.run_bind, run_underlying h, Result.andThen_ok]; rfl
  case arr => obtain ⟨_, h, _⟩ := h; simp only [isAgg, Sem.run_bind, run_underlying h, Result.andThen_ok]; rfl
  all_goals (simp only [isAgg, Sem.run_bind, run_underlying h, Result.andThen_ok]; rfl)
theorem semTo_loadCells {K : Array Value → Mem → Prop} {b o n : Nat} {l : List Value} (h : M.sub? b o n = some l) (hk : K l.toArray M) : SemTo P (loadCells ⟨b, o, none⟩ n) M K := by
  refine semTo_run l.toArray (fun w hw => ?_) hk
  obtain ⟨h1, h2⟩ := hw.sub? h
  rw [← h1]
  exact run_loadCells_list w ⟨b, o, none⟩ l (fun j v hv => by rw [addr_add]; exact h2 j v hv)
theorem loadVar_is (T : Tab) (hT : TabOk P T) (K : Value → Mem → Prop) (t : TypeId) (b o : Nat) {i : TI} (hi : T t = some i) (h : if i.d.agg then vGets (M.sub? b o i.size) K M else vGet (M.get? b o) K M) : SemTo P (loadVar t ⟨b, o, none⟩) M K := by
  obtain ⟨_, I, h1, h2, h3⟩ := hT _ _ hi
  unfold loadVar
  refine semTo_bind (semTo_run i.d.agg (fun w _ => isAgg_is T hT hi w) ?_)
  cases ha : i.d.agg with
  | true =>
    rw [ha, if_pos rfl] at h
    rw [if_pos rfl]
    refine semTo_bind (semTo_run I.size (fun w _ => run_size h1 w) ?_)
    rw [h3]
    unfold vGets at h
    split at h
    · rename_i l hl; exact semTo_bind (semTo_loadCells hl (semTo_pure h))
    · exact h.elim
  | false =>
    rw [ha, if_neg (by simp)] at h
    rw [if_neg (by simp)]
    unfold vGet at h
    split at h
    · rename_i v hv; exact semTo_run v (fun w hw => by rw [run_load, hw.cell hv]) h
    · exact h.elim
theorem load_is (T : Tab) (hT : TabOk P T) (K : Value → Mem → Prop) (t : TypeId) (x : Value) (h : vLoad T t x K M) : SemTo P (Instr.loadAt t x) M K := by
  unfold vLoad vLoadD at h
  split at h
  · rename_i b o i hi
    unfold Instr.loadAt Instr.sureAddr
    exact semTo_bind (semTo_pure (loadVar_is T hT K t b o hi h))
  · exact h.elim
/-- Some cells of a list told anew. -/
def splice (xs : List Value) (o : Nat) (vs : List Value) : List Value := xs.take o ++ vs ++ xs.drop (o + vs.length)
theorem splice_one (xs : List Value) (o : Nat) (v : Value) (h : o < xs.length) : splice xs o [v] = xs.set o v := by
  rw [List.set_eq_take_append_cons_drop, if_pos h]; simp [splice]
def vSt (B : Option Blk) (b o : Nat) (vs : List Value) (K : Value → Mem → Prop) (M : Mem) : Prop :=
  match B with
  | some (.cells true xs tot) => vThen (o + vs.length ≤ xs.length ∧ xs.length ≤ tot ∧ ∀ v ∈ vs, flatV v = true) (vBd True K undef (M.set b (.cells true (splice xs o vs) tot)))
  | _ => False
def vSt1 (B : Option Blk) (b o : Nat) (v : Value) (K : Value → Mem → Prop) (M : Mem) : Prop :=
  match B with
  | some (.cells true xs tot) => vBd (o < xs.length ∧ flatV v = true) K undef (M.set b (.cells true (xs.set o v) tot))
  | _ => False
def vStoreD (x v : Value) (d : Option TI) (K : Value → Mem → Prop) (M : Mem) : Prop :=
  match x, d with
  | .pointer (some ⟨b, o, none⟩), some i => if i.d.agg then vThen (v.cells.size = i.size) (vSt (M b) b o v.cells.toList K M) else vThen (i.size = 1) (vSt1 (M b) b o v K M)
  | _, _ => False
def vStore (T : Tab) (t : TypeId) (x v : Value) (K : Value → Mem → Prop) (M : Mem) : Prop := vStoreD x v (T t) K M
theorem Rep.le {M : Mem} {w : World} (h : Rep M w) {b : Nat} {own : Bool} {xs : List Value} {tot : Nat} (hb : M b = some (.cells own xs tot)) : xs.length ≤ tot := by
  obtain ⟨c, e, fr, h1, h2, ⟨ys, h3⟩, h4⟩ := h b _ hb
  have : c.toList.length = xs.length + ys.length := by rw [h3, List.length_append]
  rw [Array.length_toList] at this
  omega
theorem semTo_rep {α : Type} {s : Sem α} {K : α → Mem → Prop} (h : (∃ w, Rep M w) → SemTo P s M K) : SemTo P s M K := fun w hw => h ⟨w, hw⟩ w hw
theorem storeVar_is (T : Tab) (hT : TabOk P T) (K : Value → Mem → Prop) (t : TypeId) (x v : Value) (h : vStore T t x v K M) : SemTo P (Instr.storeAt t x v) M (fun _ M' => K undef M') := by
  unfold vStore vStoreD at h
  split at h
  · rename_i b o i hi
    obtain ⟨_, I, h1, h2, h3⟩ := hT _ _ hi
    unfold Instr.storeAt Instr.sureAddr storeVar
    refine semTo_bind (semTo_pure (semTo_bind (semTo_run I.size (fun w _ => run_size h1 w) ?_)))
    split at h
    · obtain ⟨hs, h⟩ := h
      rw [h3, if_neg (by omega)]
      unfold vSt at h
      split at h
      · rename_i xs tot hM
        obtain ⟨⟨ha, hb, hc⟩, _, h⟩ := h
        exact semTo_storeCells _ 0 _ xs tot hM (by omega) (by omega) hc h
      · exact h.elim
    · obtain ⟨hs, h⟩ := h
      unfold vSt1 at h
      split at h
      · rename_i xs tot hM
        obtain ⟨⟨ha, hb⟩, h⟩ := h
        have hc := flat_cells hb
        rw [h3, hc, if_neg (by simpa using hs.symm)]
        refine semTo_rep fun ⟨w, hw⟩ => ?_
        have hle := hw.le hM
        refine semTo_storeCells _ 0 _ xs tot hM (by omega) (by simp; omega) (by simpa using hb) ?_
        rw [← splice_one xs o v ha] at h
        simpa [splice] using h
      · exact h.elim
  · exact h.elim
def vMakeD (l c : Value) (d : Option TI) (K : Value → Mem → Prop) (M : Mem) : Prop :=
  match d, l, c with
  | some ⟨.slc _ 1 bytes z, _, _⟩, .int _ l, .int _ c => vThen (0 ≤ l ∧ l ≤ c ∧ c ≤ 1099511627776 ∧ bytes ≤ 32 ∧ flatV z = true)
      (vNew (List.replicate c.toNat z) (fun b => .slice (some ⟨b, 0, none⟩) l.toNat c.toNat) K M)
  | _, _, _ => False
def vMake (T : Tab) (t : TypeId) (l c : Value) (K : Value → Mem → Prop) (M : Mem) : Prop := vMakeD l c (T t) K M
theorem make_is (T : Tab) (hT : TabOk P T) (K : Value → Mem → Prop) (t : TypeId) (l c : Value) (h : vMake T t l c K M) : SemTo P (Instr.makeSlice t l c) M K := by
  unfold vMake vMakeD at h
  split at h
  · rename_i e bytes z _ _ k l k' c hi
    obtain ⟨⟨h0, h1, h2, h3, hz⟩, hk⟩ := h
    obtain ⟨⟨u1, I, u2, u3, u4, u5⟩, _⟩ := hT _ _ hi
    unfold Instr.makeSlice
    refine semTo_bind (semTo_run _ (fun w _ => run_underlying u1 w) ?_)
    dsimp only
    refine semTo_bind (semTo_run l (fun w _ => by simp [asInt, asIntOf]) (semTo_bind (semTo_run c (fun w _ => by simp [asInt, asIntOf]) ?_)))
    refine semTo_bind (semTo_run I (fun w _ => run_info u2 w) ?_)
    have wl : IntKind.i64.wrap l = l := by simp [IntKind.wrap, IntKind.bits, IntKind.signed]; omega
    have wc : IntKind.i64.wrap c = c := by simp [IntKind.wrap, IntKind.bits, IntKind.signed]; omega
    have hb : (I.bytes : Int) * c ≤ 32 * 1099511627776 := by
      rw [u4]
      have h9 : (bytes : Int) * c ≤ 32 * c := Int.mul_le_mul_of_nonneg_right (by omega) (by omega)
      omega
    have hc0 : (decide (c < 0) || decide ((I.bytes : Int) * c > 2 ^ 48)) = false := by
      simp only [Bool.or_eq_false_iff, decide_eq_false_iff_not]; omega
    have hl0 : decide (l < 0) = false := by simp; omega
    have hl1 : decide (l > c) = false := by simp; omega
    simp only [wl, wc, hc0, hl0, hl1, Bool.false_or, Bool.or_self, Bool.false_eq_true, if_false]
    refine semTo_bind (semTo_run () (fun w _ => run_askRoom P w _) ?_)
    refine semTo_bind (semTo_run I.size (fun w _ => run_size u2 w) ?_)
    rw [u3, Nat.mul_one]
    by_cases hc1 : c.toNat = 0
    · rw [if_pos hc1]
      refine semTo_bind (semTo_pure ?_)
      have : ((Array.range c.toNat).map fun i => (#[] : Array Value)[i % (#[] : Array Value).size]!) = (List.replicate c.toNat z).toArray := by rw [hc1]; simp
      rw [this]
      exact new_is K _ e (fun a => .slice (some a) l.toNat c.toNat) (by simpa using hk)
    · rw [if_neg hc1]
      refine semTo_bind (semTo_run z (fun w _ => run_zero u2 u5 w) (semTo_bind (semTo_pure ?_)))
      rw [rep_flat z hz]
      exact new_is K _ e (fun a => .slice (some a) l.toNat c.toNat) (by simpa using hk)
  · exact h.elim

/-- The bytes of a string, as cells. -/
def bytesV (l : List UInt8) : List Value := l.map fun u => .int .u8 u.toNat
theorem bytesV_length (l : List UInt8) : (bytesV l).length = l.length := by simp [bytesV]
theorem bytesV_flat (l : List UInt8) : ∀ v ∈ bytesV l, flatV v = true := by
  intro v hv
  obtain ⟨u, _, rfl⟩ := List.mem_map.1 hv
  rfl
def isByte (d : Option TI) : Bool :=
  match d with
  | some ⟨.int .u8, _, _⟩ => true
  | _ => false
def vS2BD (T : Tab) (s d : Option TI) (x : Value) (K : Value → Mem → Prop) (M : Mem) : Prop :=
  match s, d, x with
  | some ⟨.str, _, _⟩, some ⟨.slc e 1 _ _, _, _⟩, .string x => vThen (isByte (T e) = true) (vNewC (bytesV (sl x)) K M)
  | _, _, _ => False
def vS2B (T : Tab) (s d : TypeId) (x : Value) (K : Value → Mem → Prop) (M : Mem) : Prop := vS2BD T (T s) (T d) x K M
theorem isByte_spec {d : Option TI} (h : isByte d = true) : ∃ n z, d = some ⟨.int .u8, n, z⟩ := by
  unfold isByte at h
  split at h
  · exact ⟨_, _, rfl⟩
  · cases h
theorem cut_ge (s old e t : Nat) : s ≤ Question.cut (.appendCap s old e) t := by simp [Question.cut]
theorem semTo_newC {K : Addr → Mem → Prop} {e : TypeId} (xs : List Value) (c : Nat) (z : Value) (hc : xs.length ≤ c) (h : ∀ b, M b = none → K ⟨b, 0, none⟩ (M.put b (.cells true xs c))) :
    SemTo P (newRow e (xs.toArray ++ Array.replicate (c - xs.length) z)) M K := by
  intro w hw
  obtain ⟨a, w', M', h1, h2, h3, b, hb, e1, e2⟩ := semTo_newRow (P := P) (e := e) (cells := xs.toArray ++ Array.replicate (c - xs.length) z) (K := fun a M' => ∃ b, M b = none ∧ a = ⟨b, 0, none⟩ ∧ M' = M.put b (.cells true (xs ++ List.replicate (c - xs.length) z) c))
    (fun b hb => ⟨b, hb, rfl, by congr 2 <;> simp; omega⟩) w hw
  subst e2
  refine ⟨a, w', _, h1, ?_, ?_, by rw [e1]; exact h b hb⟩
  · intro i B hB
    by_cases ei : i = b
    · subst ei
      rw [put_same] at hB; injection hB with hB; subst hB
      obtain ⟨cs, e, fr, k1, k2, ⟨ys, k3⟩, k4⟩ := h2 i _ (put_same _ _ _)
      exact ⟨cs, e, fr, k1, k2, ⟨List.replicate (c - xs.length) z ++ ys, by rw [k3, List.append_assoc]⟩, k4⟩
    · refine h2 i B ?_
      rw [put_ne _ _ ei] at hB ⊢; exact hB
  · refine ⟨h3.os, h3.tape, h3.output, h3.size, h3.block, fun i ⟨B, g1, g2⟩ => h3.own i ?_⟩
    by_cases ei : i = b
    · subst ei; exact ⟨_, put_same _ _ _, rfl⟩
    · rw [put_ne _ _ ei] at g1; exact ⟨B, by rw [put_ne _ _ ei]; exact g1, g2⟩
theorem s2b_is (T : Tab) (hT : TabOk P T) (K : Value → Mem → Prop) (s d : TypeId) (x : Value) (h : vS2B T s d x K M) : SemTo P (convert s d x) M K := by
  unfold vS2B vS2BD at h
  split at h
  · rename_i e _ _ _ _ x hs hd
    obtain ⟨he, h⟩ := h
    obtain ⟨_, _, he⟩ := isByte_spec he
    · have u1 := (hT _ _ hs).1
      obtain ⟨u2, _⟩ := (hT _ _ hd).1
      have u3 := (hT _ _ he).1
      simp only [TD.ok] at u1 u3
      unfold convert
      refine semTo_bind (semTo_run _ (fun w _ => run_underlying u1 w) (semTo_bind (semTo_run _ (fun w _ => run_underlying u2 w) ?_)))
      dsimp only
      refine semTo_bind (semTo_run _ (fun w _ => run_underlying u3 w) ?_)
      dsimp only
      unfold Conv.stringToBytes
      refine semTo_bind (semTo_choose rfl fun t => ?_)
      have hx : (x.data.map fun b => Value.int .u8 b.toNat) = (bytesV (sl x)).toArray := by apply Array.ext'; simp [bytesV, sl]
      have hl : x.size = (bytesV (sl x)).length := by simp [bytesV, sl]
      dsimp only
      rw [hx, hl]
      refine semTo_bind (semTo_newC _ _ _ (cut_ge _ _ _ _) fun b hb => ?_)
      refine semTo_bind (semTo_markStringish (put_same _ _ _) (semTo_pure ?_))
      exact h b _ hb (cut_ge _ _ _ _)
  · exact h.elim
def decB : List Value → Option (List UInt8)
  | [] => some []
  | .int .u8 n :: l => (decB l).map fun r => UInt8.ofNat n.toNat :: r
  | _ => none
theorem decB_bytesV (l : List UInt8) : decB (bytesV l) = some l := by
  induction l with
  | nil => rfl
  | cons u l ih => simp only [bytesV, List.map_cons] at *; simp [decB, ih]
def vB2S1 (l : Option (List Value)) (K : Value → Mem → Prop) (M : Mem) : Prop :=
  match l with
  | some vs => (match decB vs with | some r => vBd True K (str r) M | none => False)
  | none => False
def vB2SD (T : Tab) (s d : Option TI) (x : Value) (K : Value → Mem → Prop) (M : Mem) : Prop :=
  match s, d, x with
  | some ⟨.slc e 1 _ _, _, _⟩, some ⟨.str, _, _⟩, .slice (some ⟨b, o, none⟩) n _ => vThen (isByte (T e) = true) (vB2S1 (M.sub? b o n) K M)
  | some ⟨.slc e 1 _ _, _, _⟩, some ⟨.str, _, _⟩, .slice none _ _ => vThen (isByte (T e) = true) (vBd True K (str []) M)
  | _, _, _ => False
def vB2S (T : Tab) (s d : TypeId) (x : Value) (K : Value → Mem → Prop) (M : Mem) : Prop := vB2SD T (T s) (T d) x K M
theorem decB_ints : ∀ (vs : List Value) (r : List UInt8), decB vs = some r → ∃ ns : List Int, vs = ns.map (Value.int .u8) ∧ ns.map (fun n => UInt8.ofNat n.toNat) = r
  | [], r, h => by simp only [decB, Option.some.injEq] at h; subst h; exact ⟨[], rfl, rfl⟩
  | v :: l, r, h => by
    unfold decB at h
    split at h
    · rename_i he; cases he
    · rename_i n l' he
      injection he with e1 e2
      subst e1; subst e2
      obtain ⟨r', h1, h2⟩ := Option.map_eq_some_iff.1 h
      obtain ⟨ns, h3, h4⟩ := decB_ints _ r' h1
      exact ⟨n :: ns, by rw [h3]; rfl, by rw [List.map_cons, h4, h2]⟩
    · cases h
theorem b2s_is (T : Tab) (hT : TabOk P T) (K : Value → Mem → Prop) (s d : TypeId) (x : Value) (h : vB2S T s d x K M) : SemTo P (convert s d x) M K := by
  unfold vB2S vB2SD at h
  split at h
  · rename_i e _ _ _ _ _ _ b o n c hs hd
    obtain ⟨he, h⟩ := h
    obtain ⟨_, _, he⟩ := isByte_spec he
    · obtain ⟨u1, _⟩ := (hT _ _ hs).1
      have u2 := (hT _ _ hd).1
      have u3 := (hT _ _ he).1
      simp only [TD.ok] at u2 u3
      unfold vB2S1 at h
      split at h
      · rename_i vs hvs
        split at h
        · rename_i r hr
          obtain ⟨ns, h1, h2⟩ := decB_ints vs r hr
          refine semTo_run (str r) (fun w hw => ?_) h.2
          obtain ⟨g1, g2⟩ := hw.sub? hvs
          have hld : (loadCells ⟨b, o, none⟩ n).run P w = .ok (ns.map (Value.int .u8)).toArray w := by
            rw [← g1, ← h1]
            exact run_loadCells_list w ⟨b, o, none⟩ vs (fun j v hv => by rw [addr_add]; exact g2 j v hv)
          have hrun := run_bytesToString (P := P) w ⟨b, o, none⟩ n c ns hld
          have hs' : (convert s d (.slice (some ⟨b, o, none⟩) n c)).run P w = (Conv.bytesToString (.slice (some ⟨b, o, none⟩) n c)).run P w := by
            simp only [convert, Sem.run_bind, run_underlying u1, run_underlying u2, run_underlying u3, Result.andThen_ok]
          rw [hs', hrun, str, foldl_push_bytes, h2]
          congr 2
          apply ByteArray.ext
          simp
        · exact h.elim
      · exact h.elim
  · rename_i hs hd
    obtain ⟨he, h⟩ := h
    obtain ⟨_, _, he⟩ := isByte_spec he
    · obtain ⟨u1, _⟩ := (hT _ _ hs).1
      have u2 := (hT _ _ hd).1
      have u3 := (hT _ _ he).1
      simp only [TD.ok] at u2 u3
      refine semTo_run (str []) (fun w hw => ?_) h.2
      simp only [convert, Sem.run_bind, run_underlying u1, run_underlying u2, run_underlying u3, Result.andThen_ok, Conv.bytesToString, Sem.run_pure]
      rfl
  · exact h.elim

/-- What is appended. -/
def srcOf (M : Mem) (x : Value) : Option (List Value) :=
  match x with
  | .slice none 0 _ => some []
  | .slice (some ⟨b, o, none⟩) n _ => M.sub? b o n
  | .string s => some (bytesV (sl s))
  | _ => none
theorem src_is {K : Array Value → Mem → Prop} {x : Value} {l : List Value} (h : srcOf M x = some l) (hk : K l.toArray M) : SemTo P (Builtin.firstCells 1 l.length x) M K := by
  unfold srcOf at h
  split at h
  · injection h with h; subst h
    exact semTo_pure hk
  · rename_i b o n c
    unfold Builtin.firstCells
    refine semTo_rep fun ⟨w, hw⟩ => ?_
    rw [Nat.mul_one]
    exact semTo_loadCells (by rw [(hw.sub? h).1]; exact h) hk
  · rename_i s
    injection h with h; subst h
    refine semTo_run (bytesV (sl s)).toArray (fun w _ => ?_) hk
    have hl : (bytesV (sl s)).length = s.size := by simp [bytesV, sl]
    have hx : ((s.extract 0 s.size).data.map fun b => Value.int .u8 b.toNat) = (bytesV (sl s)).toArray := by
      apply Array.ext'; simp [bytesV, sl]
    simp only [Builtin.firstCells, hl, hx, Sem.run_pure]
  · cases h
theorem srcLen {x : Value} {l : List Value} (h : srcOf M x = some l) (w : World) (hw : Rep M w) : (Builtin.lenOf x).run P w = .ok l.length w := by
  unfold srcOf at h
  split at h
  · injection h with h; subst h; rfl
  · rw [(hw.sub? h).1]; rfl
  · injection h with h; subst h; simp [Builtin.lenOf, bytesV, sl]
  · cases h
/-- 'append' onto a slice that is all that is told of an own block (or onto nil); 'bytes' is an element's width. -/
def vApp2 (bytes : Nat) (B : Option Blk) (g n c : Nat) (src : Option (List Value)) (K : Value → Mem → Prop) (M : Mem) : Prop :=
  match B, src with
  | some (.cells true xs tot), some news => vThen (n = xs.length ∧ c = tot ∧ (n + news.length) * bytes ≤ 70368744177664 ∧ ∀ v ∈ news, flatV v = true) (vNewC (xs ++ news) K (M.del g))
  | _, _ => False
def vApp0 (bytes : Nat) (src : Option (List Value)) (K : Value → Mem → Prop) (M : Mem) : Prop :=
  match src with
  | some [] => vBd True K (.slice none 0 0) M
  | some (v :: vs) => vThen ((vs.length + 1) * bytes ≤ 70368744177664) (vNewC (v :: vs) K M)
  | none => False
def okSrc (d : Option TI) : Bool :=
  match d with
  | some ⟨.slc _ _ _ _, _, _⟩ | some ⟨.str, _, _⟩ => true
  | _ => false
def vAppD (d d' : Option TI) (s x : Value) (K : Value → Mem → Prop) (M : Mem) : Prop :=
  match d, s with
  | some ⟨.slc _ 1 bytes z, _, _⟩, .slice none 0 0 => vThen (okSrc d' = true ∧ flatV z = true ∧ 1 ≤ bytes ∧ bytes ≤ 32) (vApp0 bytes (srcOf M x) K M)
  | some ⟨.slc _ 1 bytes z, _, _⟩, .slice (some ⟨g, 0, none⟩) n c => vThen (okSrc d' = true ∧ flatV z = true ∧ 1 ≤ bytes ∧ bytes ≤ 32) (vApp2 bytes (M g) g n c (srcOf M x) K M)
  | _, _ => False
def vApp (T : Tab) (ts : List TypeId) (s x : Value) (K : Value → Mem → Prop) (M : Mem) : Prop :=
  match ts with
  | [t, t'] => vAppD (T t) (T t') s x K M
  | _ => False
theorem zeroCells_one {z : Value} (hz : flatV z = true) (n : Nat) : Builtin.zeroCells z.cells n = Array.replicate n z := by
  rw [flat_cells hz]
  unfold Builtin.zeroCells
  apply Array.ext'
  apply List.ext_getElem
  · simp
  · intro i h1 h2; simp [Nat.mod_one]
theorem growBy_le (n : Nat) : ∀ (r c : Nat), Builtin.growBy n r c ≤ max c (2 * n + 192)
  | 0, c => by simp only [Builtin.growBy]; omega
  | r + 1, c => by
    unfold Builtin.growBy
    split
    · omega
    · have ih := growBy_le n r (c + (c + 768) / 4)
      omega
theorem nextcap_le (need old : Nat) (h : old < need) : Builtin.nextslicecap need old ≤ 2 * need + 192 := by
  unfold Builtin.nextslicecap
  split
  · omega
  · split
    · omega
    · have := growBy_le need 4 old; omega
/-- What both ways of 'append' come to: in place, or anew. -/
theorem append_is (T : Tab) (hT : TabOk P T) (K : Value → Mem → Prop) (ts : Array TypeId) (r : TypeId) (s x : Value) (h : vApp T ts.toList s x K M) : SemTo P (Builtin.append_ ts r #[s, x]) M K := by
  unfold vApp at h
  split at h
  · rename_i t t' hts
    have hts' : ts = #[t, t'] := by apply Array.ext'; exact hts
    subst hts'
    have happ := h
    clear h
    have main : ∀ {e : TypeId} {bytes : Nat} {z : Value} {sz : Nat} {zz : Value}, T t = some ⟨.slc e 1 bytes z, sz, zz⟩ → okSrc (T t') = true ∧ flatV z = true ∧ 1 ≤ bytes ∧ bytes ≤ 32 →
        (s = .slice none 0 0 ∧ vApp0 bytes (srcOf M x) K M ∨ ∃ g n c, s = .slice (some ⟨g, 0, none⟩) n c ∧ vApp2 bytes (M g) g n c (srcOf M x) K M) → SemTo P (Builtin.append_ #[t, t'] r #[s, x]) M K := by
      rintro e bytes z _ _ hi ⟨hok, hz, hb1, hb⟩ h
      obtain ⟨⟨u1, I, u2, u3, u4, u5⟩, _⟩ := hT _ _ hi
      have hx : ∃ d, P.underlying t' = some d ∧ (match d with | .int _ => true | _ => false) = false := by
        unfold okSrc at hok
        split at hok
        · rename_i h'; obtain ⟨h', _⟩ := (hT _ _ h').1; exact ⟨_, h', rfl⟩
        · rename_i h'; have h' := (hT _ _ h').1; simp only [TD.ok] at h'; exact ⟨_, h', rfl⟩
        · cases hok
      obtain ⟨d, hd1, hd2⟩ := hx
      have key : ∀ (base : Option Addr) (sLen sCap : Nat) (old news : List Value), s = .slice base sLen sCap → srcOf M x = some news → old.length = sLen → (sLen + news.length) * bytes ≤ 70368744177664 →
          (∀ (w : World), Rep M w → (Builtin.firstCells 1 sLen s).run P w = .ok old.toArray w) →
          (sLen + news.length ≤ sCap → SemTo P (match base with | some a => (do storeCells (a.add (sLen * 1)) news; pure (Value.slice base (sLen + news.length) sCap) : Sem Value) | none => pure (Value.slice base (sLen + news.length) sCap)) M K) →
          (sCap < sLen + news.length → ∀ b c, M b = none → sLen + news.length ≤ c → ∃ M1, Sub M1 (M.put b (.cells true (old ++ news) c)) ∧ K (.slice (some ⟨b, 0, none⟩) (sLen + news.length) c) M1) → SemTo P (Builtin.append_ #[t, t'] r #[s, x]) M K := by
        intro base sLen sCap old news hs hsrc hlen hbd hold hin hout
        subst hs
        unfold Builtin.append_
        dsimp only [List.getElem?_toArray]
        refine semTo_bind (semTo_run _ (fun w _ => run_underlying u1 w) ?_)
        dsimp only
        refine semTo_bind (semTo_run _ (fun w _ => run_size u2 w) ?_)
        rw [u3]
        refine semTo_bind (semTo_run d (fun w _ => run_underlying hd1 w) ?_)
        refine semTo_bind (semTo_run false (fun w _ => by cases d <;> first | rfl | cases hd2) ?_)
        simp only [Bool.false_eq_true, if_false, false_or]
        refine semTo_bind (semTo_run news.length (fun w hw => srcLen hsrc w hw) ?_)
        split
        · rename_i hle
          refine semTo_bind ?_
          simp only [Bool.not_false, if_true]
          refine src_is hsrc ?_
          have := hin hle
          cases base with
          | none => exact this
          | some a => exact this
        · rename_i hgt
          have hgt' : sCap < sLen + news.length := by omega
          have hI0 : ¬ I.bytes = 0 := by omega
          refine semTo_bind (semTo_run I (fun w _ => run_info u2 w) ?_)
          rw [if_neg (fun h => hI0 h.2)]
          refine semTo_bind (semTo_run I (fun w _ => run_info u2 w) ?_)
          have hcap := nextcap_le _ _ hgt'
          have hcb : ¬ Builtin.nextslicecap (sLen + news.length) sCap * I.bytes > 2 ^ 48 := by
            rw [u4]
            have h9 := Nat.mul_le_mul_right bytes hcap
            rw [Nat.add_mul, Nat.mul_assoc] at h9
            omega
          rw [if_neg hcb]
          refine semTo_bind (semTo_choose rfl fun tt => ?_)
          have hge := cut_ge (sLen + news.length) sCap e tt
          generalize Question.cut (.appendCap (sLen + news.length) sCap e) tt = cc at hge ⊢
          refine semTo_bind (semTo_run I (fun w _ => run_info u2 w) ?_)
          refine semTo_bind (semTo_run () (fun w _ => run_askRoom P w _) ?_)
          refine semTo_bind (semTo_run old.toArray (fun w hw => hold w hw) ?_)
          simp only [Bool.not_false, if_true]
          refine semTo_bind (src_is hsrc ?_)
          refine semTo_bind (semTo_run z (fun w _ => run_zero u2 u5 w) ?_)
          rw [zeroCells_one hz]
          have hl : (old ++ news).length = sLen + news.length := by rw [List.length_append, hlen]
          have := semTo_newC (P := P) (M := M) (e := e) (K := fun a M' => ∃ M1, Sub M1 M' ∧ K (.slice (some a) (sLen + news.length) cc) M1) (old ++ news) cc z (by omega) (fun b hb => hout hgt' b cc hb hge)
          rw [hl] at this
          refine semTo_bind ?_
          have e1 : old.toArray ++ news.toArray ++ Array.replicate (cc - (sLen + news.length)) z = (old ++ news).toArray ++ Array.replicate (cc - (sLen + news.length)) z := by simp
          rw [e1]
          intro w hw
          obtain ⟨a, w', M', h1, h2, h3, M1, h4, h5⟩ := this w hw
          exact ⟨a, w', M1, h1, h2.sub h4, h3.sub h4, semTo_pure h5⟩
      clear happ
      rcases h with ⟨hs, h⟩ | ⟨g, n, c, hs, h⟩
      · subst hs
        unfold vApp0 at h
        split at h
        · rename_i hsrc
          exact key none 0 0 [] [] rfl hsrc rfl (by simp) (fun w _ => rfl) (fun _ => semTo_pure h.2) (fun h => by simp at h)
        · rename_i v vs hsrc
          exact key none 0 0 [] (v :: vs) rfl hsrc rfl (by simpa using h.1) (fun w _ => rfl) (fun h => by simp at h) (fun _ b c hb hc => ⟨_, Sub.refl _, by have := h.2 b c hb (by simpa using hc); simpa using this⟩)
        · exact h.elim
      · subst hs
        unfold vApp2 at h
        split at h
        · rename_i xs tot news hM hsrc
          obtain ⟨⟨e1, e2, hbd, hfl⟩, hk⟩ := h
          subst e1; subst e2
          refine semTo_rep fun ⟨w0, hw0⟩ => ?_
          have hle := hw0.le hM
          have hsub : M.sub? g 0 xs.length = some xs := by simp [Mem.sub?, hM]
          have hfc : ∀ w, Rep M w → (Builtin.firstCells 1 xs.length (.slice (some ⟨g, 0, none⟩) xs.length c)).run P w = .ok xs.toArray w := by
            intro w hw
            obtain ⟨g1, g2⟩ := hw.sub? hsub
            have := run_loadCells_list (P := P) w ⟨g, 0, none⟩ xs (fun j v hv => by rw [addr_add]; exact g2 j v hv)
            unfold Builtin.firstCells
            rw [Nat.mul_one]; exact this
          refine key (some ⟨g, 0, none⟩) xs.length c xs news rfl hsrc rfl hbd hfc (fun hin => ?_) (fun hout b c' hb hc => ?_)
          · dsimp only
            rw [addr_add, Nat.mul_one, Nat.zero_add]
            refine semTo_bind (semTo_storeCells news 0 M xs c hM (by omega) (by omega) hfl ?_)
            refine semTo_pure ?_
            have := hk g c (by simp [Mem.del]) (by rw [List.length_append]; omega)
            have e3 : (M.del g).put g (.cells true (xs ++ news) c) = M.set g (.cells true (xs.take (xs.length + 0) ++ news ++ xs.drop (xs.length + 0 + news.length)) c) := by
              funext i
              simp only [Mem.set, Mem.put, Mem.del]
              split
              · congr 2
                rw [Nat.add_zero, List.take_length, List.drop_eq_nil_of_le (by omega), List.append_nil]
              · rfl
            rw [e3] at this
            rw [List.length_append] at this
            exact this
          · have hsd : Sub (M.del g) M := by
              intro i B hB
              unfold Mem.del at hB
              split at hB
              · cases hB
              · exact hB
            have := hk b c' (by unfold Mem.del; split <;> first | rfl | exact hb) (by rw [List.length_append]; exact hc)
            rw [List.length_append] at this
            exact ⟨_, hsd.both b _, this⟩
        · exact h.elim
    unfold vAppD at happ
    split at happ
    · rename_i hd; exact main hd happ.1 (.inl ⟨rfl, happ.2⟩)
    · rename_i hd; exact main hd happ.1 (.inr ⟨_, _, _, rfl, happ.2⟩)
    · exact happ.elim
  · exact h.elim
/-- clear of a slice of its own. -/
def vClrB (B : Option Blk) (b o n : Nat) (z : Value) (K : Value → Mem → Prop) (M : Mem) : Prop := match B with
  | some (.cells true xs tot) => vBd (o + n ≤ xs.length ∧ flatV z = true) K (.tuple #[]) (M.set b (.cells true (xs.take o ++ List.replicate n z ++ xs.drop (o + n)) tot))
  | _ => False
def vClrD (d : Option TI) (x : Value) (K : Value → Mem → Prop) (M : Mem) : Prop :=
  match d, x with
  | some ⟨.slc _ 1 _ _, _, _⟩, .slice none _ _ => K (.tuple #[]) M
  | some ⟨.slc _ 1 _ _, _, _⟩, .slice (some _) 0 _ => K (.tuple #[]) M
  | some ⟨.slc _ 1 _ z, _, _⟩, .slice (some ⟨b, o, none⟩) (n + 1) _ => vClrB (M b) b o (n + 1) z K M
  | _, _ => False
def vClr (T : Tab) (t : TypeId) (x : Value) (K : Value → Mem → Prop) (M : Mem) : Prop := vClrD (T t) x K M
theorem clear_is (T : Tab) (hT : TabOk P T) (K : Value → Mem → Prop) (t r : TypeId) (x : Value) (h : vClr T t x K M) : SemTo P (Builtin.clear_ #[t] r #[x]) M K := by
  unfold vClr vClrD at h
  split at h
  · rename_i hi
    obtain ⟨⟨u1, I, u2, u3, u4, u5⟩, _⟩ := hT _ _ hi
    unfold Builtin.clear_
    refine semTo_bind (semTo_run _ (fun w _ => run_underlying u1 w) ?_)
    exact semTo_bind (semTo_pure (semTo_pure h))
  · rename_i hi
    obtain ⟨⟨u1, I, u2, u3, u4, u5⟩, _⟩ := hT _ _ hi
    unfold Builtin.clear_
    refine semTo_bind (semTo_run _ (fun w _ => run_underlying u1 w) ?_)
    exact semTo_bind (semTo_pure (semTo_pure h))
  · rename_i e bytes z _ _ b o n c hi
    obtain ⟨⟨u1, I, u2, u3, u4, u5⟩, _⟩ := hT _ _ hi
    unfold vClrB at h
    split at h
    · rename_i xs tot hM
      obtain ⟨⟨h1, hz⟩, hk⟩ := h
      unfold Builtin.clear_
      refine semTo_bind (semTo_run _ (fun w _ => run_underlying u1 w) ?_)
      refine semTo_bind (semTo_run z (fun w _ => run_zero u2 u5 w) ?_)
      rw [zeroCells_one hz]
      refine semTo_rep fun ⟨w, hw⟩ => ?_
      have hle := hw.le hM
      refine semTo_bind ?_
      refine semTo_storeCells _ 0 _ xs tot hM (by omega) (by simp; omega) (fun v hv => by
        have : v = z := by simpa using hv
        rw [this]; exact hz) ?_
      refine semTo_pure ?_
      simpa using hk
    · exact h.elim
  · exact h.elim
end
end Go.Proofs.YthpcojnpiggaiaaGreat
/-! The calculus, continued: code as a condition on what is told, and the way into and out of a function. -/
namespace Go.Proofs.YthpcojnpiggaiaaGreat
open Go
set_option linter.unusedSimpArgs false

/-- A value of a struct's or an array's type, put together. -/
def buildL (fs : Nat → Option (Nat × Nat)) : List Value → List (Nat × Value) → Option (List Value)
  | cells, [] => some cells
  | cells, (i, v) :: rest => match fs i with
    | some (off, sz) => if v.cells.size = sz ∧ off + sz ≤ cells.length then buildL fs (splice cells off v.cells.toList) rest else none
    | none => none
def aggOpt : Option (List Value) → Out
  | some l => .ok (.agg l.toArray)
  | none => .no
def buildD (parts : List (Nat × Value)) (d : Option TI) : Out :=
  match d with
  | some ⟨.strct fs, _, z⟩ => aggOpt (buildL (fun i => (fs[i]?).map fun x => (x.1, x.2.1)) z.cells.toList parts)
  | some ⟨.arr _ sz _, _, z⟩ => aggOpt (buildL (fun i => some (i * sz, sz)) z.cells.toList parts)
  | _ => .no
def buildR (T : Tab) (t : TypeId) (parts : List (Nat × Value)) : Out := buildD parts (T t)
theorem foldl_set : ∀ (vs : List Value) (k off : Nat) (cells : Array Value), off + k + vs.length ≤ cells.size →
    (vs.zipIdx k).foldl (fun (cs : Array Value) (x : Value × Nat) => cs.setIfInBounds (off + x.2) x.1) cells = (splice cells.toList (off + k) vs).toArray
  | [], k, off, cells, h => by simp [splice]
  | v :: vs, k, off, cells, h => by
    rw [List.length_cons] at h
    have ih := foldl_set vs (k + 1) off (cells.setIfInBounds (off + k) v) (by simp; omega)
    rw [List.zipIdx_cons, List.foldl_cons, ih]
    congr 1
    unfold splice
    rw [Array.toList_setIfInBounds, List.set_eq_take_append_cons_drop, if_pos (by simp; omega)]
    have hk : off + k ≤ cells.toList.length := by simp; omega
    have hp : ∀ p (L : List Value), p ≤ L.length → (L.take p ++ v :: L.drop (p + 1)).take (p + 1) = L.take p ++ [v] ∧ (L.take p ++ v :: L.drop (p + 1)).drop (p + 1 + vs.length) = L.drop (p + (vs.length + 1)) := by
      intro p L hL
      constructor
      · rw [List.take_append, List.take_of_length_le (by rw [List.length_take]; omega), List.length_take, Nat.min_eq_left hL, show p + 1 - p = 1 by omega]
        simp
      · rw [List.drop_append, List.drop_eq_nil_of_le (by rw [List.length_take]; omega), List.length_take, Nat.min_eq_left hL, show p + 1 + vs.length - p = vs.length + 1 by omega]
        simp [Nat.add_assoc, Nat.add_comm, Nat.add_left_comm]
    obtain ⟨h1, h2⟩ := hp (off + k) cells.toList hk
    rw [show off + (k + 1) = off + k + 1 by omega, h1, h2]
    simp
theorem fill_buildL (place : Nat → Option (Nat × Nat)) : ∀ (parts : List (Nat × Value)) (cells : Array Value) (l : List Value), buildL place cells.toList parts = some l → Instr.fill place cells parts = some l.toArray
  | [], cells, l, h => by simp only [buildL, Option.some.injEq] at h; subst h; simp [Instr.fill]
  | (i, v) :: rest, cells, l, h => by
    unfold buildL at h
    unfold Instr.fill
    cases hp : place i with
    | none => rw [hp] at h; cases h
    | some x =>
      obtain ⟨off, sz⟩ := x
      rw [hp] at h
      dsimp only at h ⊢
      split at h
      · rename_i hc
        obtain ⟨h1, h2⟩ := hc
        rw [Array.length_toList] at h2
        rw [if_neg (by simp; omega)]
        have hz : (v.cells.zipIdx).foldl (fun (cs : Array Value) (x : Value × Nat) => cs.setIfInBounds (off + x.2) x.1) cells = (splice cells.toList off v.cells.toList).toArray := by
          have := foldl_set v.cells.toList 0 off cells (by simp; omega)
          rw [← Array.foldl_toList, Array.toList_zipIdx]
          simpa using this
        exact (congrArg (fun c => Instr.fill place c rest) hz).trans (fill_buildL place rest _ l h)
      · cases h
section
variable {P : Program} {M : Mem}
theorem build_is (T : Tab) (hT : TabOk P T) (t : TypeId) (parts : Array (Nat × Value)) : (buildR T t parts.toList).Is P (Instr.build t parts) := by
  unfold buildR buildD
  split
  · rename_i fs sz z hi
    obtain ⟨⟨F, h1, h2, h3⟩, I, h4, h5, h6⟩ := hT _ _ hi
    unfold aggOpt
    split
    · rename_i l hl
      intro w
      have hm : ∀ (L : List Field), (∀ f ∈ L, (P.info? f.type).isSome = true) → (L.mapM (fun f => (do pure (f.offset, ← sizeOf f.type) : Sem (Nat × Nat)))).run P w = .ok (L.map fun f => (f.offset, P.cellsOf f.type)) w := by
        intro L
        induction L with
        | nil => intro _; rfl
        | cons f L ih =>
          intro hL
          obtain ⟨J, hJ⟩ := Option.isSome_iff_exists.1 (hL f (by simp))
          simp only [List.mapM_cons, Sem.run_bind, run_size hJ, Result.andThen_ok, Sem.run_pure, ih (fun g hg => hL g (by simp [hg])), List.map_cons]
          simp [Program.cellsOf, hJ]
      have hma : (F.mapM (fun f => (do pure (f.offset, ← sizeOf f.type) : Sem (Nat × Nat)))).run P w = .ok (F.toList.map fun f => (f.offset, P.cellsOf f.type)).toArray w := by
        rw [Array.mapM_eq_mapM_toList]
        simp only [Sem.run_map, hm F.toList (fun f hf => (h3 f hf).1), Result.andThen_ok]
      have hfill := fill_buildL (fun i => ((F.toList.map fun f => (f.offset, P.cellsOf f.type)).toArray)[i]?) parts.toList z.cells l (by
        rw [← hl]
        congr 1
        funext i
        rw [← h2]
        simp only [List.getElem?_toArray, List.getElem?_map, Option.map_map]
        rfl)
      unfold Instr.build
      simp only [Sem.run_bind, run_zero h4 h5, Result.andThen_ok, run_underlying h1, hma, hfill, Sem.run_pure]
    · trivial
  · rename_i n sz g sz' z hi
    obtain ⟨⟨e, h1, ⟨J, h2, h3⟩, _⟩, I, h4, h5, h6⟩ := hT _ _ hi
    unfold aggOpt
    split
    · rename_i l hl
      intro w
      have hfill := fill_buildL (fun i => some (i * sz, sz)) parts.toList z.cells l hl
      unfold Instr.build
      simp only [Sem.run_bind, run_zero h4 h5, Result.andThen_ok, run_underlying h1, run_size h2, h3, hfill, Sem.run_pure]
    · trivial
  · trivial

/-! ### Operations -/
def vConvD (T : Tab) (s d : Option TI) (x : Value) (K : Value → Mem → Prop) (M : Mem) : Prop :=
  match s, d with
  | some ⟨.str, _, _⟩, some ⟨.slc _ _ _ _, _, _⟩ => vS2BD T s d x K M
  | some ⟨.slc _ _ _ _, _, _⟩, some ⟨.str, _, _⟩ => vB2SD T s d x K M
  | _, _ => vR (convD x s d) K M
def vConv (T : Tab) (s d : TypeId) (x : Value) (K : Value → Mem → Prop) (M : Mem) : Prop := vConvD T (T s) (T d) x K M
def vCallV (P : Program) (f : Value) (args : List Value) (K : Value → Mem → Prop) (M : Mem) : Prop :=
  match f with
  | .func (.func g) first cap => Does P g (first.toList ++ args ++ cap.toList) M K
  | _ => False
def vBuiltin (T : Tab) (b : Builtin) (ts : List TypeId) (args : List Value) (K : Value → Mem → Prop) (M : Mem) : Prop :=
  match b, ts, args with
  | .len, [t], [x] => vR (lenR T t x) K M
  | .append, ts, [s, x] => vApp T ts s x K M
  | .min, _, l => vR (minR l) K M
  | .max, _, l => vR (maxR l) K M
  | .clear, [t], [x] => vClr T t x K M
  | _, _, _ => False
def vOp (P : Program) (T : Tab) (o : Op) (env : Env) (K : Value → Mem → Prop) (M : Mem) : Prop :=
  match o with
  | .move x | .assign x => K (ev env x) M
  | .pick c a b => vR (pickR (ev env c) (ev env a) (ev env b)) K M
  | .alloc e => vAlloc T e K M
  | .box _ x => vBox (ev env x) K M
  | .build t ps => vR (buildR T t (ps.toList.map fun p => (p.1, ev env p.2))) K M
  | .buildSlice t n ps => vBuildS T t n (ps.toList.map fun p => (p.1, ev env p.2)) K M
  | .load t x => vLoad T t (ev env x) K M
  | .store t x v => vStore T t (ev env x) (ev env v) K M
  | .nilCheck x => vR (nilR (ev env x)) K M
  | .binOp op t x y _ => vR (binR T op t (ev env x) (ev env y)) K M
  | .unOp op _ x => vR (unR op (ev env x)) K M
  | .convert s d x => vConv T s d (ev env x) K M
  | .makeInterface t x => vR (ifaceR T t (ev env x)) K M
  | .makeFunc fn a b => K (.func fn (a.toList.map (ev env)).toArray (b.toList.map (ev env)).toArray) M
  | .makeSlice t l c => vMake T t (ev env l) (ev env c) K M
  | .slice t x lo hi mx => vR (sliceR T t (ev env x) (lo.map (ev env)) (hi.map (ev env)) (mx.map (ev env))) K M
  | .fieldAddr t x f => vR (fieldAddrR T t (ev env x) f) K M
  | .field t x f => vR (fieldR T t (ev env x) f) K M
  | .indexAddr t x i => vR (idxAddrR T t (ev env x) (ev env i)) K M
  | .index t x i => vR (idxR T t (ev env x) (ev env i)) K M
  | .extract x i => vR (extR (ev env x) i) K M
  | .call ⟨.value f, args, _⟩ => vCallV P (ev env f) (args.toList.map (ev env)) K M
  | .call ⟨.builtin b, args, ts⟩ => vBuiltin T b ts.toList (args.toList.map (ev env)) K M
  | _ => False
end
section
variable {P : Program} {env : Env} {M : Mem} {K : Value → Mem → Prop}
theorem opTo_of {o : Op} (s : Oper → Sem Value) (hx : ∀ o', o'.op = o → execOp (ev env) o' = (do pure (Next.value (← s o')))) (h : ∀ o', SemTo P (s o') M K) : OpTo P o env M K := by
  refine opTo_value fun w o' hr e => ?_
  obtain ⟨v, w', M', h1, h2, h3, h4⟩ := h o' w hr
  exact ⟨v, w', M', by rw [hx o' e, Sem.run_bind, h1]; rfl, h2, h3, h4⟩
theorem semTo_out {r : Out} {s : Sem Value} (hi : r.Is P s) (h : vR r K M) : SemTo P s M K := by
  cases r with
  | ok v => exact semTo_run v (fun w _ => hi w) h
  | need p v => exact semTo_run v (fun w _ => hi h.1 w) h.2
  | no => exact h.elim
theorem eqGuard_is {T : Tab} {op : BinOp} {t : TypeId} {x y : Operand} {a b : Value} (h : binR T op t a b ≠ .no) (w : World) : (eqGuard op t x y a b).run P w = .ok () w := by
  cases op <;> (first | rfl | skip)
  all_goals cases a <;> cases b <;> (first | rfl | (exact absurd rfl h))
theorem vOp_is (T : Tab) (hT : TabOk P T) (o : Op) (h : vOp P T o env K M) : OpTo P o env M K := by
  unfold vOp at h
  split at h
  case h_1 => exact opTo_pure _ (fun w o' e => by simp only [execOp, e]; rfl) h
  case h_2 => exact opTo_pure _ (fun w o' e => by simp only [execOp, e]; rfl) h
  case h_3 c a b => exact opTo_of (fun _ => do pure (if ← asBool (ev env c) then ev env a else ev env b)) (fun o' e => by simp only [execOp, e]; simp) fun _ => semTo_out (pick_is P _ _ _) h
  case h_4 e0 => exact opTo_of (fun _ => Instr.alloc e0 true (.tuple #[])) (fun o' e => by simp only [execOp, e]) fun _ => alloc_is T hT K _ _ h
  case h_5 e0 x => exact opTo_of (fun _ => Instr.box e0 (ev env x)) (fun o' e => by simp only [execOp, e]) fun _ => box_is K _ _ h
  case h_6 t ps => exact opTo_of (fun _ => Instr.build t (ps.map fun p => (p.1, ev env p.2))) (fun o' e => by simp only [execOp, e]) fun _ => semTo_out (build_is T hT t _) (by simpa using h)
  case h_7 t n ps => exact opTo_of (fun _ => Instr.buildSlice t n (ps.map fun p => (p.1, ev env p.2))) (fun o' e => by simp only [execOp, e]) fun _ => buildS_is T hT K t n _ (by simpa using h)
  case h_8 => exact opTo_of (fun _ => _) (fun o' e => by simp only [execOp, e]) fun _ => load_is T hT K _ _ h
  case h_9 t x v =>
    refine opTo_skip fun w o' hr e => ?_
    obtain ⟨_, w', M', h1, h2, h3, h4⟩ := storeVar_is T hT K t (ev env x) (ev env v) h w hr
    exact ⟨w', M', by simp only [execOp, e, Sem.run_bind, h1, Result.andThen_ok, Sem.run_pure], h2, h3, h4⟩
  case h_10 x =>
    unfold nilR at h
    split at h
    all_goals first
      | (rename_i hx; exact opTo_pure _ (fun w o' e => by simp only [execOp, e, hx]; rfl) h)
      | exact h.elim
  case h_11 op t x y t' =>
    have hne : binR T op t (ev env x) (ev env y) ≠ .no := by intro e; rw [e] at h; exact h
    refine opTo_of (fun _ => do eqGuard op t x y (ev env x) (ev env y); binOp op t (ev env x) (ev env y)) (fun o' e => by simp only [execOp, e]) fun _ => ?_
    exact semTo_bind (semTo_run () (fun w _ => eqGuard_is hne w) (semTo_out (bin_is P T hT op t _ _) h))
  case h_12 => exact opTo_of (fun _ => _) (fun o' e => by simp only [execOp, e]) fun _ => semTo_out (un_is P _ _) h
  case h_13 s d x =>
    refine opTo_of (fun _ => convert s d (ev env x)) (fun o' e => by simp only [execOp, e]) fun _ => ?_
    unfold vConv vConvD at h
    split at h
    · exact s2b_is T hT K _ _ _ h
    · exact b2s_is T hT K _ _ _ h
    · exact semTo_out (conv_is P T hT _ _ _) h
  case h_14 => exact opTo_of (fun _ => _) (fun o' e => by simp only [execOp, e]) fun _ => semTo_out (iface_is P T hT _ _) h
  case h_15 fn a b => exact opTo_pure _ (fun w o' e => by simp only [execOp, e]; simp only [Instr.makeFunc, Sem.run_bind, Sem.run_pure, Result.andThen_ok]; congr 3 <;> (apply Array.ext'; simp)) h
  case h_16 => exact opTo_of (fun _ => _) (fun o' e => by simp only [execOp, e]) fun _ => make_is T hT K _ _ _ h
  case h_17 => exact opTo_of (fun _ => _) (fun o' e => by simp only [execOp, e]) fun _ => semTo_out (slice_is P T hT _ _ _ _ _) h
  case h_18 => exact opTo_of (fun _ => _) (fun o' e => by simp only [execOp, e]) fun _ => semTo_out (fieldAddr_is P T hT _ _ _) h
  case h_19 => exact opTo_of (fun _ => _) (fun o' e => by simp only [execOp, e]) fun _ => semTo_out (field_is P T hT _ _ _) h
  case h_20 => exact opTo_of (fun _ => _) (fun o' e => by simp only [execOp, e]) fun _ => semTo_out (idxAddr_is P T hT _ _ _) h
  case h_21 => exact opTo_of (fun _ => _) (fun o' e => by simp only [execOp, e]) fun _ => semTo_out (idx_is P T hT _ _ _) h
  case h_22 => exact opTo_of (fun _ => _) (fun o' e => by simp only [execOp, e]) fun _ => semTo_out (ext_is P _ _) h
  case h_23 f args ts =>
    unfold vCallV at h
    split at h
    · rename_i g first cap hf
      obtain ⟨fn, h1, h2, h3⟩ := h.1
      refine opTo_enter g _ (fun w o' e => ?_) h
      simp only [execOp, e, resolve, hf, Deferred.ofValue, Sem.run_bind, Sem.run_pure, Result.andThen_ok, invoke, callFunc, run_program, h1, h2, h3, Bool.false_eq_true, if_false]
      congr 2
      apply Array.ext'
      simp
    · exact h.elim
  case h_24 b args ts =>
    unfold vBuiltin at h
    split at h
    · rename_i t x ht hx
      have e1 : ts = #[t] := Array.ext' ht
      have e2 : args.map (ev env) = #[x] := Array.ext' (by simpa using hx)
      refine opTo_of (fun o' => Builtin.len_ #[t] o'.type #[x]) (fun o' e => ?_) fun o' => semTo_out (len_is P T hT t o'.type x) h
      simp only [execOp, e, resolve, invoke, builtin, e1, e2]
      rfl
    · rename_i s x hx
      have e2 : args.map (ev env) = #[s, x] := Array.ext' (by simpa using hx)
      refine opTo_of (fun o' => Builtin.append_ ts o'.type #[s, x]) (fun o' e => ?_) fun o' => append_is T hT K ts o'.type s x h
      simp only [execOp, e, resolve, invoke, builtin, e2]
      rfl
    · rename_i l hx
      have e2 : args.map (ev env) = (args.toList.map (ev env)).toArray := by apply Array.ext'; simp
      refine opTo_of (fun o' => Builtin.min_ ts o'.type (args.toList.map (ev env)).toArray) (fun o' e => ?_) fun o' => semTo_out (min_is P ts o'.type _) h
      simp only [execOp, e, resolve, invoke, builtin, e2]
      rfl
    · rename_i l hx
      have e2 : args.map (ev env) = (args.toList.map (ev env)).toArray := by apply Array.ext'; simp
      refine opTo_of (fun o' => Builtin.max_ ts o'.type (args.toList.map (ev env)).toArray) (fun o' e => ?_) fun o' => semTo_out (max_is P ts o'.type _) h
      simp only [execOp, e, resolve, invoke, builtin, e2]
      rfl
    · rename_i t x ht hx
      have e1 : ts = #[t] := Array.ext' ht
      have e2 : args.map (ev env) = #[x] := Array.ext' (by simpa using hx)
      refine opTo_of (fun o' => Builtin.clear_ #[t] o'.type #[x]) (fun o' e => ?_) fun o' => clear_is T hT K t o'.type x h
      simp only [execOp, e, resolve, invoke, builtin, e1, e2]
      rfl
    · exact h.elim
  case h_25 => exact h.elim
end

/-! ### Code -/
/-- What follows an operation. -/
def Kt (rest : Env → Mem → Prop) (env : Env) (d : Option Tmp) : Value → Mem → Prop := fun v M => rest (put env d v) M
/-- An operation behind a guard. -/
def vGd (y : Option Bool) (b : Bool) (A B : Env → Mem → Prop) (env : Env) (M : Mem) : Prop := (y = some b → A env M) ∧ (y ≠ some b → B env M)
def gA (P : Program) (T : Tab) (o : Op) (d : Option Tmp) (rest : Env → Mem → Prop) : Env → Mem → Prop := fun env M => vOp P T o env (Kt rest env d) M
def gB (d : Option Tmp) (rest : Env → Mem → Prop) : Env → Mem → Prop := fun env M => rest (put env d undef) M
def vOps (P : Program) (T : Tab) (ops : List Oper) (Q : Exit → Env → Mem → Prop) : List Oper → Env → Mem → Prop
  | [], env, M => Q .normal env M
  | o :: rest, env, M => match o.guard with
    | none => vOp P T o.op env (Kt (vOps P T ops Q rest) env o.dst) M
    | some (j, b) => vGd (yE ops env j) b (gA P T o.op o.dst (vOps P T ops Q rest)) (gB o.dst (vOps P T ops Q rest)) env M
def dstIn (n : Nat) (o : Oper) : Bool :=
  match o.dst with
  | some d => Nat.blt d n
  | none => true
theorem dstIn_spec {n : Nat} {o : Oper} (h : dstIn n o = true) : ∀ t, o.dst = some t → t < n := by
  intro t ht
  unfold dstIn at h
  rw [ht] at h
  simpa [Nat.blt_eq] using h
theorem vOps_is (P : Program) (T : Tab) (hT : TabOk P T) (n : Nat) (ops : List Oper) (Q : Exit → Env → Mem → Prop) : ∀ (l : List Oper) (env : Env) (M : Mem), l.all (dstIn n) = true → vOps P T ops Q l env M → OpsTo P n ops Q l env M
  | [], env, M, _, h => opsTo_nil h
  | o :: rest, env, M, hd, h => by
    simp only [List.all_cons, Bool.and_eq_true] at hd
    unfold vOps at h
    split at h
    · rename_i hg
      exact opsTo_plain hg (dstIn_spec hd.1) ((vOp_is T hT o.op h).mono fun v M' h' => vOps_is P T hT n ops Q rest _ _ hd.2 h')
    · rename_i j b hg
      by_cases hy : yE ops env j = some b
      · exact opsTo_taken hg hy (dstIn_spec hd.1) ((vOp_is T hT o.op (h.1 hy)).mono fun v M' h' => vOps_is P T hT n ops Q rest _ _ hd.2 h')
      · exact opsTo_passed hg hy (dstIn_spec hd.1) (vOps_is P T hT n ops Q rest _ _ hd.2 (h.2 hy))
/-- Each operation of a piece of code writes to a temporary of the frame; regions are taken in their order. -/
def codeIn (n : Nat) : Code → Bool
  | .region _ ops _ => ops.toList.all (dstIn n)
  | .seq a b => codeIn n a && codeIn n b
  | .cond _ a b => codeIn n a && codeIn n b
  | .block _ c => codeIn n c
  | .loop c => codeIn n c
  | _ => true
def vIf (v : Value) (A B : Env → Mem → Prop) (env : Env) (M : Mem) : Prop :=
  match v with
  | .bool t => (t = true → A env M) ∧ (t = false → B env M)
  | _ => False
def vc (P : Program) (T : Tab) (n : Nat) : Code → (Exit → Env → Mem → Prop) → Env → Mem → Prop
  | .skip, Q, env, M => Q .normal env M
  | .region _ ops false, Q, env, M => vOps P T ops.toList Q ops.toList env M
  | .region id ops true, Q, env, M => CodeTo P n (.region id ops true) Q env M
  | .seq a b, Q, env, M => vc P T n a (thenQ (vc P T n b Q) Q) env M
  | .cond c a b, Q, env, M => vIf (ev env c) (vc P T n a Q) (vc P T n b Q) env M
  | .block id c, Q, env, M => vc P T n c (inBlk id Q) env M
  | .loop c, Q, env, M => CodeTo P n (.loop c) Q env M
  | .ret, Q, env, M => Q .ret env M
  | .exit id, Q, env, M => Q (.exit id) env M
  | _, _, _, _ => False
theorem vc_is (P : Program) (T : Tab) (hT : TabOk P T) (n : Nat) : ∀ (c : Code) (Q : Exit → Env → Mem → Prop) (env : Env) (M : Mem), codeIn n c = true → vc P T n c Q env M → CodeTo P n c Q env M := by
  intro c
  induction c with
  | skip => exact fun Q env M _ h => codeTo_skip h
  | region id ops d =>
    intro Q env M hd h
    cases d with
    | false => exact codeTo_region (vOps_is P T hT n ops.toList Q _ _ _ hd h)
    | true => exact h
  | seq a b iha ihb =>
    intro Q env M hd h
    simp only [codeIn, Bool.and_eq_true] at hd
    refine codeTo_seq ((iha _ _ _ hd.1 h).mono fun e env' M' h' => ?_)
    cases e <;> first | exact ihb _ _ _ hd.2 h' | exact h'
  | cond c a b iha ihb =>
    intro Q env M hd h
    simp only [codeIn, Bool.and_eq_true] at hd
    unfold vc vIf at h
    split at h
    · rename_i t ht
      exact codeTo_cond ht (fun e => iha _ _ _ hd.1 (h.1 e)) (fun e => ihb _ _ _ hd.2 (h.2 e))
    · exact h.elim
  | block id c ih => exact fun Q env M hd h => codeTo_block (ih _ _ _ hd h)
  | loop c ih => exact fun Q env M _ h => h
  | ret => exact fun Q env M _ h => codeTo_ret h
  | exit id => exact fun Q env M _ h => codeTo_exit h
  | _ => exact fun Q env M _ h => h.elim
end Go.Proofs.YthpcojnpiggaiaaGreat
/-! The calculus, continued: functions, loops, and the rules by which a condition is worked out. -/
namespace Go.Proofs.YthpcojnpiggaiaaGreat
open Go
set_option linter.unusedSimpArgs false

/-! ### Functions -/
def env0 (args : List Value) : Env := fun t => args.getD t undef
def resOne (T : Tab) (env : Env) (M : Mem) : ResultVar → Option Value
  | .tmp t => some (env t)
  | .cell a t => match env a, T t with
    | .pointer (some ⟨b, o, none⟩), some i => if i.d.agg then (M.sub? b o i.size).map (fun l => .agg l.toArray) else M.get? b o
    | _, _ => none
def resAll (T : Tab) (env : Env) (M : Mem) : List ResultVar → Option (List Value)
  | [] => some []
  | r :: rs => match resOne T env M r, resAll T env M rs with
    | some v, some vs => some (v :: vs)
    | _, _ => none
def resV : List Value → Value
  | [v] => v
  | vs => .tuple vs.toArray
/-- What is told of memory may be less in the end. -/
def vRet (R : Value → Mem → Prop) (v : Value) (M : Mem) : Prop := ∃ M1, Sub M1 M ∧ R v M1
def vDone (l : Option (List Value)) (R : Value → Mem → Prop) (M : Mem) : Prop :=
  match l with
  | some vs => vRet R (resV vs) M
  | none => False
def doneQ (T : Tab) (rs : List ResultVar) (R : Value → Mem → Prop) : Exit → Env → Mem → Prop
  | .normal, env, M => vDone (resAll T env M rs) R M
  | .ret, env, M => vDone (resAll T env M rs) R M
  | _, _, _ => False
section
variable {P : Program} {T : Tab} {M : Mem}
def resSem (tmps : Array Value) : ResultVar → Sem Value
  | .tmp t => pure (tmps.getD t undef)
  | .cell a t => do loadVar t (← asAddr (tmps.getD a undef))
theorem results_eq (fn : Func) (tmps : Array Value) : results fn tmps = (do let vs ← fn.results.mapM (resSem tmps); pure (if h : vs.size = 1 then vs[0] else .tuple vs)) := by
  unfold results
  congr 1
theorem loadVar_run (hT : TabOk P T) {t : TypeId} {i : TI} (hi : T t = some i) {w : World} (hw : Rep M w) {b o : Nat} {v : Value} (h : (if i.d.agg then (M.sub? b o i.size).map (fun l => Value.agg l.toArray) else M.get? b o) = some v) :
    (loadVar t ⟨b, o, none⟩).run P w = .ok v w := by
  obtain ⟨_, I, h1, h2, h3⟩ := hT _ _ hi
  unfold loadVar
  rw [Sem.run_bind, isAgg_is T hT hi, Result.andThen_ok]
  split at h
  · rename_i hg
    rw [if_pos hg]
    obtain ⟨l, hl, e⟩ := Option.map_eq_some_iff.1 h
    obtain ⟨k1, k2⟩ := hw.sub? hl
    have := run_loadCells_list (P := P) w ⟨b, o, none⟩ l (fun j v hv => by rw [addr_add]; exact k2 j v hv)
    rw [k1] at this
    simp only [Sem.run_bind, run_size h1, h3, Result.andThen_ok, this, Sem.run_pure, e]
  · rename_i hg
    rw [if_neg hg, run_load, hw.cell h]
theorem resAll_is (hT : TabOk P T) {env : Env} {tmps : Array Value} (he : ∀ t, tmps.getD t undef = env t) {w : World} (hw : Rep M w) : ∀ (rs : List ResultVar) (vs : List Value), resAll T env M rs = some vs →
    (rs.mapM (resSem tmps)).run P w = .ok vs w
  | [], vs, h => by simp only [resAll, Option.some.injEq] at h; subst h; rfl
  | r :: rs, vs, h => by
    unfold resAll at h
    split at h
    · rename_i v vs' h1 h2
      injection h with h
      subst h
      have ih := resAll_is hT he hw rs vs' h2
      have hr : (resSem tmps r).run P w = .ok v w := by
        cases r with
        | tmp t => simp only [resOne, Option.some.injEq] at h1; simp only [resSem, he, h1, Sem.run_pure]
        | cell a t =>
          simp only [resOne] at h1
          split at h1
          · rename_i b o i hp hi
            simp only [resSem, he, hp, asAddr, Sem.run_bind, Sem.run_pure, Result.andThen_ok]
            exact loadVar_run hT hi hw h1
          · cases h1
      simp only [List.mapM_cons, Sem.run_bind, hr, Result.andThen_ok, ih, Sem.run_pure]
    · cases h
theorem resV_is (vs : List Value) : (if h : vs.toArray.size = 1 then vs.toArray[0] else .tuple vs.toArray) = resV vs := by
  match vs with
  | [] => rfl
  | [v] => rfl
  | a :: b :: l => rfl
theorem done_is (hT : TabOk P T) {fn : Func} {n : Nat} {env : Env} {R : Value → Mem → Prop} {a : Act} {w : World} (hf : Fits n env a) (hw : Rep M w) (h : vDone (resAll T env M fn.results.toList) R M) :
    ∃ v, (results fn a.tmps).run P w = .ok v w ∧ vRet R v M := by
  unfold vDone at h
  split at h
  · rename_i vs hvs
    refine ⟨resV vs, ?_, h⟩
    have he : ∀ t, a.tmps.getD t undef = env t := fun t => congrFun hf.ev (.tmp t)
    have := resAll_is hT he hw _ vs hvs
    rw [results_eq, Sem.run_bind, Array.mapM_eq_mapM_toList, Sem.run_map, this, Result.andThen_ok, Result.andThen_ok, Sem.run_pure, resV_is]
  · exact h.elim
/-- The way into a function. -/
theorem does_of (hT : TabOk P T) {f : FuncId} {fn : Func} {c : Code} (hf : P.funcs[f]? = some fn) (hb : fn.body = some c) (hn : (fn.name == "runtime.NumGoroutine") = false) (hi : codeIn fn.ntmps c = true)
    {args : List Value} {R : Value → Mem → Prop} (ha : args.length ≤ fn.ntmps) (h : vc P T fn.ntmps c (doneQ T fn.results.toList R) (env0 args) M) : Does P f args M R := by
  refine ⟨⟨fn, hf, hn, by rw [hb]; rfl⟩, fun w hw => ?_⟩
  refine calls_of_wp hf hb ?_
  have hfit : Fits fn.ntmps (env0 args) { tmps := args.toArray ++ Array.replicate (fn.ntmps - args.toArray.size) undef, defers := [] } := by
    refine ⟨rfl, by simp; omega, ?_⟩
    funext x
    cases x with
    | tmp t =>
      simp only [Act.eval, ev, env0, Array.getD_eq_getD_getElem?, List.getD_eq_getElem?_getD]
      rw [Array.getElem?_append]
      split
      · simp
      · rename_i hlt
        rw [List.getElem?_eq_none (by simpa using hlt)]
        simp only [Array.getElem?_replicate]
        split <;> rfl
    | const v => rfl
    | global g => rfl
    | func f => rfl
  refine wp_mono (vc_is P T hT fn.ntmps c _ _ _ hi h M w _ w hfit hw (Ext.refl M w)) ?_
  rintro e a w' ⟨env, M', h1, h2, h3, h4⟩
  cases e with
  | normal =>
    obtain ⟨v, k1, M1, k2, k3⟩ := done_is hT h1 h2 h4
    exact ⟨h1.defers, v, k1, v, M1, rfl, h2.sub k2, h3.sub k2, k3⟩
  | ret =>
    obtain ⟨v, k1, M1, k2, k3⟩ := done_is hT h1 h2 h4
    exact ⟨h1.defers, v, k1, v, M1, rfl, h2.sub k2, h3.sub k2, k3⟩
  | exit id => exact h4.elim
  | goto id => exact h4.elim
  | panic c => exact h4.elim
  | outgrown => exact h4.elim

/-! ### Loops -/
/-- The slots of A are open, all others as they were. -/
def mrg (A : List Nat) (g e : Env) : Env := fun t => if A.contains t then g t else e t
def Keeps (A : List Nat) (e e' : Env) : Prop := ∀ t, A.contains t = false → e' t = e t
def sets (e : Env) : List (Nat × Value) → Env
  | [] => e
  | (d, v) :: l => put (sets e l) (some d) v
def agrees (e : Env) : List (Nat × Value) → Prop
  | [] => True
  | (d, v) :: l => e d = v ∧ agrees e l
theorem sets_agrees (e : Env) : ∀ (l : List (Nat × Value)), agrees e l → sets e l = e
  | [], _ => rfl
  | (d, v) :: l, h => by
    unfold sets
    rw [sets_agrees e l h.2]
    funext t
    simp only [put]
    split
    · rename_i ht; rw [ht, h.1]
    · rfl
theorem mrg_keeps {A : List Nat} {e e' : Env} (h : Keeps A e e') : mrg A e' e = e' := by
  funext t
  unfold mrg
  split
  · rfl
  · rename_i ht; exact (h t (by simpa using ht)).symm
/-- What a round comes to. -/
structure Rnd {X : Type} (A : List Nat) (e : Env) (live : X → List (Nat × Value)) (J : X → Mem → Prop) (μ : X → Nat) (k : Nat) (e' : Env) (M' : Mem) : Prop where
  out : ∃ x' M1, Sub M1 M' ∧ μ x' < k ∧ Keeps A e e' ∧ agrees e' (live x') ∧ J x' M1
theorem Rnd.mk' {X : Type} {A : List Nat} {e : Env} {live : X → List (Nat × Value)} {J : X → Mem → Prop} {μ : X → Nat} {k : Nat} {e' : Env} {M' : Mem} (x' : X) (h1 : μ x' < k) (h2 : Keeps A e e') (h3 : agrees e' (live x')) (h4 : J x' M') :
    Rnd A e live J μ k e' M' := ⟨x', M', Sub.refl _, h1, h2, h3, h4⟩
/-- So too where memory is dropped. -/
theorem Rnd.mk'' {X : Type} {A : List Nat} {e : Env} {live : X → List (Nat × Value)} {J : X → Mem → Prop} {μ : X → Nat} {k : Nat} {e' : Env} {M' : Mem} (M1 : Mem) (x' : X) (hs : Sub M1 M') (h1 : μ x' < k) (h2 : Keeps A e e') (h3 : agrees e' (live x')) (h4 : J x' M1) :
    Rnd A e live J μ k e' M' := ⟨x', M1, hs, h1, h2, h3, h4⟩
/-- A loop: its slots A are open at each round's head, but for those that 'live' tells; J tells memory; μ falls. -/
theorem loop_to (hT : TabOk P T) {n : Nat} {body : Code} {Q : Exit → Env → Mem → Prop} {env : Env} {X : Type} (A : List Nat) (live : X → List (Nat × Value)) (J : X → Mem → Prop) (μ : X → Nat) (x0 : X)
    (hi : codeIn n body = true) (h0 : agrees env (live x0)) (hJ : J x0 M)
    (round : ∀ x M g, J x M → vc P T n body (thenQ (Rnd A env live J μ (μ x)) Q) (sets (mrg A g env) (live x)) M) : CodeTo P n (.loop body) Q env M := by
  refine codeTo_loop (fun k e M => ∃ x, μ x = k ∧ Keeps A env e ∧ agrees e (live x) ∧ J x M) (μ x0) ⟨x0, rfl, fun _ _ => rfl, h0, hJ⟩ ?_
  rintro k e M ⟨x, rfl, h1, h2, h3⟩
  have h := round x M e h3
  rw [mrg_keeps h1, sets_agrees e _ h2] at h
  refine (vc_is P T hT n body _ _ _ hi h).mono ?_
  intro ex e' M' h'
  cases ex with
  | normal => obtain ⟨x', M1, a0, a1, a2, a3, a4⟩ := h'.out; exact ⟨μ x', M1, a0, a1, x', rfl, a2, a3, a4⟩
  | _ => exact h'
end
end Go.Proofs.YthpcojnpiggaiaaGreat
/-! The calculus, continued: regions that draw their order and only read. -/
namespace Go.Proofs.YthpcojnpiggaiaaGreat
open Go
set_option linter.unusedSimpArgs false

def vQCall (P : Program) (f : Value) (args : List Value) (K : Value → Mem → Prop) (M : Mem) : Prop := ∃ v, vCallV P f args (fun v' M' => v' = v ∧ M' = M) M ∧ K v M
def vQ (P : Program) (T : Tab) (o : Op) (env : Env) (K : Value → Mem → Prop) (M : Mem) : Prop :=
  match o with
  | .move _ | .assign _ | .pick _ _ _ | .load _ _ | .binOp _ _ _ _ _ | .unOp _ _ _ | .slice _ _ _ _ _ | .fieldAddr _ _ _ | .field _ _ _ | .indexAddr _ _ _ | .index _ _ _ | .extract _ _ | .nilCheck _ => vOp P T o env K M
  | .convert a b x => vR (convR T a b (ev env x)) K M
  | .call ⟨.builtin .len, ⟨[x]⟩, ⟨[t]⟩⟩ => vR (lenR T t (ev env x)) K M
  | .call ⟨.builtin .min, args, _⟩ => vR (minR (args.toList.map (ev env))) K M
  | .call ⟨.builtin .max, args, _⟩ => vR (maxR (args.toList.map (ev env))) K M
  | .call ⟨.value f, args, _⟩ => vQCall P (ev env f) (args.toList.map (ev env)) K M
  | _ => False
def gQ (P : Program) (T : Tab) (o : Op) (d : Option Tmp) (rest : Env → Mem → Prop) : Env → Mem → Prop := fun env M => vQ P T o env (Kt rest env d) M
def vQs (P : Program) (T : Tab) (ops : List Oper) (Q : Exit → Env → Mem → Prop) : List Oper → Env → Mem → Prop
  | [], env, M => Q .normal env M
  | o :: rest, env, M => match o.guard with
    | none => vQ P T o.op env (Kt (vQs P T ops Q rest) env o.dst) M
    | some (j, b) => vGd (yE ops env j) b (gQ P T o.op o.dst (vQs P T ops Q rest)) (gB o.dst (vQs P T ops Q rest)) env M
section
variable {P : Program} {T : Tab} {env : Env} {M : Mem} {K : Value → Mem → Prop}
/-- A value in every world that M tells of, that world being left as it was; or a call. -/
def QuietOp (P : Program) (o : Op) (env : Env) (M : Mem) (v : Value) : Prop :=
  ∀ w o', Rep M w → o'.op = o → ((execOp (ev env) o').run P w = .ok (.value v) w ∨ ∃ f args, (execOp (ev env) o').run P w = .ok (.enter f args) w ∧ Calls P f args w fun e w' => e = .returned v ∧ Rep M w' ∧ Ext M w M w')
theorem quiet_out {o : Op} {r : Out} {s : Oper → Sem Value} (hx : ∀ o', o'.op = o → execOp (ev env) o' = (do pure (Next.value (← s o')))) (hi : ∀ o', r.Is P (s o')) (h : vR r K M) : ∃ v, QuietOp P o env M v ∧ K v M := by
  cases r with
  | ok v => exact ⟨v, fun w o' _ e => .inl (by rw [hx o' e, Sem.run_bind, hi o' w]; rfl), h⟩
  | need p v => exact ⟨v, fun w o' _ e => .inl (by rw [hx o' e, Sem.run_bind, hi o' h.1 w]; rfl), h.2⟩
  | no => exact h.elim
theorem vQ_is (hT : TabOk P T) (o : Op) (h : vQ P T o env K M) : ∃ v, QuietOp P o env M v ∧ K v M := by
  unfold vQ at h
  split at h
  case h_1 x => exact ⟨_, fun w o' _ e => .inl (by simp only [execOp, e]; rfl), h⟩
  case h_2 x => exact ⟨_, fun w o' _ e => .inl (by simp only [execOp, e]; rfl), h⟩
  case h_3 c a b => exact quiet_out (s := fun _ => do pure (if ← asBool (ev env c) then ev env a else ev env b)) (fun o' e => by simp only [execOp, e]; simp) (fun _ => pick_is P _ _ _) h
  case h_4 t x =>
    have h' : vLoadD (ev env x) (T t) K M := h
    unfold vLoadD at h'
    split at h'
    · rename_i b o i hx hi
      have hv : ∃ v, (if i.d.agg then (M.sub? b o i.size).map (fun l => Value.agg l.toArray) else M.get? b o) = some v ∧ K v M := by
        by_cases hg : i.d.agg = true
        · rw [if_pos hg] at h' ⊢
          unfold vGets at h'
          cases hl : M.sub? b o i.size with
          | some l => rw [hl] at h'; exact ⟨_, rfl, h'⟩
          | none => rw [hl] at h'; exact h'.elim
        · rw [if_neg hg] at h' ⊢
          unfold vGet at h'
          cases hl : M.get? b o with
          | some l => rw [hl] at h'; exact ⟨_, rfl, h'⟩
          | none => rw [hl] at h'; exact h'.elim
      obtain ⟨v, hv, hk⟩ := hv
      refine ⟨v, fun w o' hw e => .inl ?_, hk⟩
      simp only [execOp, e, hx, Instr.loadAt, Instr.sureAddr, Sem.run_bind, Sem.run_pure, Result.andThen_ok, loadVar_run hT hi hw hv]
    · exact h'.elim
  case h_5 op t x y t' =>
    have h' : vR (binR T op t (ev env x) (ev env y)) K M := h
    have hne : binR T op t (ev env x) (ev env y) ≠ .no := by intro e; rw [e] at h'; exact h'
    refine quiet_out (s := fun _ => do eqGuard op t x y (ev env x) (ev env y); binOp op t (ev env x) (ev env y)) (fun o' e => by simp only [execOp, e]) (fun _ => ?_) h'
    have hb := bin_is P T hT op t (ev env x) (ev env y)
    cases hr : binR T op t (ev env x) (ev env y) with
    | ok v => rw [hr] at hb; exact fun w => by rw [Sem.run_bind, eqGuard_is hne, Result.andThen_ok, hb w]
    | need p v => rw [hr] at hb; exact fun hp w => by rw [Sem.run_bind, eqGuard_is hne, Result.andThen_ok, hb hp w]
    | no => trivial
  case h_6 => exact quiet_out (s := fun _ => _) (fun o' e => by simp only [execOp, e]) (fun _ => un_is P _ _) h
  case h_7 => exact quiet_out (s := fun _ => _) (fun o' e => by simp only [execOp, e]) (fun _ => slice_is P T hT _ _ _ _ _) h
  case h_8 => exact quiet_out (s := fun _ => _) (fun o' e => by simp only [execOp, e]) (fun _ => fieldAddr_is P T hT _ _ _) h
  case h_9 => exact quiet_out (s := fun _ => _) (fun o' e => by simp only [execOp, e]) (fun _ => field_is P T hT _ _ _) h
  case h_10 => exact quiet_out (s := fun _ => _) (fun o' e => by simp only [execOp, e]) (fun _ => idxAddr_is P T hT _ _ _) h
  case h_11 => exact quiet_out (s := fun _ => _) (fun o' e => by simp only [execOp, e]) (fun _ => idx_is P T hT _ _ _) h
  case h_12 => exact quiet_out (s := fun _ => _) (fun o' e => by simp only [execOp, e]) (fun _ => ext_is P _ _) h
  case h_13 x =>
    have h' : vR (nilR (ev env x)) K M := h
    unfold nilR at h'
    split at h'
    all_goals first
      | (rename_i hx; exact ⟨_, fun w o' _ e => .inl (by simp only [execOp, e, hx]; rfl), h'⟩)
      | exact h'.elim
  case h_14 a b x => exact quiet_out (s := fun _ => convert a b (ev env x)) (fun o' e => by simp only [execOp, e]) (fun _ => conv_is P T hT _ _ _) h
  case h_15 x t => exact quiet_out (s := fun o' => Builtin.len_ #[t] o'.type #[ev env x]) (fun o' e => by
    have e2 : Array.map (ev env) ⟨[x]⟩ = #[ev env x] := by simp
    simp only [execOp, e, resolve, invoke, builtin, e2]; rfl) (fun o' => len_is P T hT t o'.type _) h
  case h_16 args ts => exact quiet_out (s := fun o' => Builtin.min_ ts o'.type (args.toList.map (ev env)).toArray) (fun o' e => by
    have e2 : args.map (ev env) = (args.toList.map (ev env)).toArray := by apply Array.ext'; simp
    simp only [execOp, e, resolve, invoke, builtin, e2]; rfl) (fun o' => min_is P ts o'.type _) h
  case h_17 args ts => exact quiet_out (s := fun o' => Builtin.max_ ts o'.type (args.toList.map (ev env)).toArray) (fun o' e => by
    have e2 : args.map (ev env) = (args.toList.map (ev env)).toArray := by apply Array.ext'; simp
    simp only [execOp, e, resolve, invoke, builtin, e2]; rfl) (fun o' => max_is P ts o'.type _) h
  case h_18 f args ts =>
    obtain ⟨v, h, hk⟩ := h
    refine ⟨v, fun w o' hw e => .inr ?_, hk⟩
    unfold vCallV at h
    split at h
    · rename_i g first cap hf
      obtain ⟨fn, h1, h2, h3⟩ := h.1
      refine ⟨g, _, ?_, (h.2 w hw).mono fun e' w' ⟨v', M', k1, k2, k3, k4, k5⟩ => ⟨by rw [k1, k4], k5 ▸ k2, by rw [k5] at k3; exact k3⟩⟩
      simp only [execOp, e, resolve, hf, Deferred.ofValue, Sem.run_bind, Sem.run_pure, Result.andThen_ok, invoke, callFunc, run_program, h1, h2, h3, Bool.false_eq_true, if_false]
      congr 2
      apply Array.ext'
      simp
    · exact h.elim
  case h_19 => exact h.elim
/-- A region that draws its order, none of whose operations writes or makes memory that is told of. -/
theorem draw_to (hT : TabOk P T) {n id : Nat} {l : List Oper} {Q : Exit → Env → Mem → Prop} (hm : P.follows .mixedOrders = true) (hB : Region.lexB .any l.toArray = true) (hd : l.all (dstIn n) = true)
    (h : vQs P T l Q l env M) : CodeTo P n (.region id l.toArray true) Q env M := by
  intro M0 w0 a w h1 h2 h3
  refine wp_region_quiet (C := fun w' => Rep M w' ∧ Ext M0 w0 M w') hm hB ⟨fun b B hB' => Blk.holds_of (w := w) rfl (h2 b B hB'), ⟨h3.os, h3.tape, h3.output, h3.size, h3.block, h3.own⟩⟩ ?_
  have key : ∀ (rest : List Oper) (env : Env) (a : Act), rest.all (dstIn n) = true → Fits n env a → vQs P T l Q rest env M →
      wpQuiet P l.toArray (fun w' => Rep M w' ∧ Ext M0 w0 M w') (fun a' => ∀ w', Rep M w' ∧ Ext M0 w0 M w' → Way n M0 w0 Q .normal a' w') rest a := by
    intro rest
    induction rest with
    | nil => exact fun env a _ hf h w' ⟨k1, k2⟩ => ⟨env, M, hf, k1, k2, h⟩
    | cons o rest ih =>
      intro env a hd hf h
      simp only [List.all_cons, Bool.and_eq_true] at hd
      have hop : vQ P T o.op env (Kt (vQs P T l Q rest) env o.dst) M → o.quiet P a (fun w' => Rep M w' ∧ Ext M0 w0 M w') (wpQuiet P l.toArray (fun w' => Rep M w' ∧ Ext M0 w0 M w') (fun a' => ∀ w', Rep M w' ∧ Ext M0 w0 M w' → Way n M0 w0 Q .normal a' w') rest) := by
        intro hq
        obtain ⟨v, hv, hk⟩ := vQ_is hT o.op hq
        refine ⟨v, fun w' ⟨k1, k2⟩ => ?_, ih _ _ hd.2 (hf.put (dstIn_spec hd.1) v) hk⟩
        unfold Oper.quietAt
        rw [hf.ev]
        rcases hv w' o k1 rfl with hr | ⟨f, args, hr, hc⟩
        · rw [hr]; exact ⟨rfl, rfl⟩
        · rw [hr]; exact ⟨rfl, hc.mono fun e w'' ⟨g1, g2, g3⟩ => ⟨g1, g2, k2.trans g3⟩⟩
      unfold vQs at h
      unfold wpQuiet
      split at h
      · rename_i hg
        rw [if_pos (by simp [Region.wanted, hg])]
        exact hop h
      · rename_i j b hg
        have hy := yielded_fits hf l.toArray j
        by_cases hyb : yE l env j = some b
        · rw [if_pos (by simp [Region.wanted, hg, hy, hyb])]
          exact hop (h.1 hyb)
        · rw [if_neg (by simp [Region.wanted, hg, hy, hyb])]
          exact ih _ _ hd.2 (hf.put (dstIn_spec hd.1) undef) (h.2 hyb)
  exact key l env a hd h1 (by simpa using h)
end
end Go.Proofs.YthpcojnpiggaiaaGreat
/-! The calculus, continued: the rules by which a condition is worked out. -/
namespace Go.Proofs.YthpcojnpiggaiaaGreat
open Go
set_option linter.unusedSimpArgs false
def resCell (v : Value) (d : Option TI) (M : Mem) : Option Value :=
  match v, d with
  | .pointer (some ⟨b, o, none⟩), some i => if i.d.agg then (M.sub? b o i.size).map (fun l => .agg l.toArray) else M.get? b o
  | _, _ => none
def consO : Option Value → Option (List Value) → Option (List Value)
  | some v, some vs => some (v :: vs)
  | _, _ => none
def buildAt (fs : Nat → Option (Nat × Nat)) (cs : List Value) (rest : List (Nat × Value)) (v : Value) : Option (Nat × Nat) → Option (List Value)
  | some (off, sz) => if v.cells.size = sz ∧ off + sz ≤ cs.length then buildL fs (splice cs off v.cells.toList) rest else none
  | none => none

/-- An equation that the simplifier shall not take for one by computation. -/
theorem nr {α : Sort _} {a b : α} (h : a = b) : a = b := h
attribute [simp] string_lit string_mk put_same
@[simp] theorem nth_zero {α : Type} (a : α) (l : List α) : (a :: l)[0]? = some a := rfl
@[simp] theorem nth_succ {α : Type} (a : α) (l : List α) (i : Nat) : (a :: l)[i + 1]? = l[i]? := rfl

section
variable {P : Program} {T : Tab} {n : Nat} {Q : Exit → Env → Mem → Prop} {env : Env} {M : Mem} {K : Value → Mem → Prop} {ops rest : List Oper}
@[simp] theorem sl_mk (l : List UInt8) : sl ⟨⟨l⟩⟩ = l := nr rfl
@[simp] theorem ev_tmp (t : Tmp) : ev env (.tmp t) = env t := nr rfl
@[simp] theorem ev_const (v : Value) : ev env (.const v) = v := nr rfl
@[simp] theorem ev_global (g : Nat) : ev env (.global g) = .pointer (some ⟨g, 0, none⟩) := nr rfl
@[simp] theorem ev_func (f : FuncId) : ev env (.func f) = .func (.func f) #[] #[] := nr rfl
@[simp] theorem put_at (d t : Nat) (v : Value) : put env (some d) v t = if t = d then v else env t := nr rfl
@[simp] theorem put_no (v : Value) : put env none v = env := nr rfl
def envOf : List Value → Nat → Env
  | [], _ => fun _ => undef
  | v :: l, k => put (envOf l (k + 1)) (some k) v
theorem envOf_at : ∀ (l : List Value) (k t : Nat), envOf l k t = if k ≤ t then l.getD (t - k) undef else undef
  | [], k, t => by simp [envOf]
  | v :: l, k, t => by
    simp only [envOf, put]
    split
    · rename_i h; subst h; simp
    · rename_i h
      rw [envOf_at l (k + 1) t]
      by_cases h1 : k + 1 ≤ t
      · rw [if_pos h1, if_pos (by omega), show t - k = (t - (k + 1)) + 1 by omega]; simp
      · rw [if_neg h1, if_neg (by omega)]
theorem env0_of (args : List Value) : env0 args = envOf args 0 := by
  funext t; rw [envOf_at]; simp [env0]
@[simp] theorem envOf_nil (k t : Nat) : envOf [] k t = undef := nr rfl
@[simp] theorem envOf_cons (v : Value) (l : List Value) (k : Nat) : envOf (v :: l) k = put (envOf l (k + 1)) (some k) v := nr rfl
/-- The way into a function, its frame written out. -/
theorem does_fn {P : Program} {T : Tab} (hT : TabOk P T) {f : FuncId} {fn : Func} {c : Code} (hf : P.funcs[f]? = some fn) (hb : fn.body = some c) (hn : (fn.name == "runtime.NumGoroutine") = false) (hi : codeIn fn.ntmps c = true)
    {n : Nat} {rs : List ResultVar} (hnt : fn.ntmps = n) (hrs : fn.results = rs.toArray) {args : List Value} {R : Value → Mem → Prop} {M : Mem} (ha : Nat.ble args.length n = true) (h : vc P T n c (doneQ T rs R) (envOf args 0) M) : Does P f args M R := by
  subst hnt
  refine does_of hT hf hb hn hi (Nat.le_of_ble_eq_true ha) ?_
  rw [hrs, env0_of]
  exact h
@[simp] theorem mrg_at (A : List Nat) (g : Env) (t : Nat) : mrg A g env t = if A.contains t then g t else env t := nr rfl
@[simp] theorem sets_nil : sets env [] = env := nr rfl
@[simp] theorem sets_cons (d : Nat) (v : Value) (l : List (Nat × Value)) : sets env ((d, v) :: l) = put (sets env l) (some d) v := nr rfl
@[simp] theorem agrees_nil : agrees env [] = True := nr rfl
@[simp] theorem agrees_cons (d : Nat) (v : Value) (l : List (Nat × Value)) : agrees env ((d, v) :: l) = (env d = v ∧ agrees env l) := nr rfl
theorem keeps_put {A : List Nat} {e : Env} {d : Nat} (v : Value) (h : A.contains d = true) : Keeps A env (put e (some d) v) = Keeps A env e := by
  apply propext
  constructor
  · intro hk t ht; have := hk t ht; rw [put_at, if_neg (by rintro rfl; rw [h] at ht; cases ht)] at this; exact this
  · intro hk t ht; rw [put_at, if_neg (by rintro rfl; rw [h] at ht; cases ht)]; exact hk t ht
theorem keeps_mrg {A : List Nat} {g : Env} : Keeps A env (mrg A g env) = True := by
  apply eq_true; intro t ht; unfold mrg; rw [ht]; rfl
theorem keeps_mrg' {A B : List Nat} {g e : Env} (h : B.all (A.contains ·) = true) : Keeps A env (mrg B g e) = Keeps A env e := by
  have hh : ∀ t, A.contains t = false → B.contains t = false := by
    intro t ht
    cases hb : B.contains t with
    | false => rfl
    | true =>
      rw [List.all_eq_true] at h
      have := h t (by simpa using hb)
      rw [this] at ht; cases ht
  apply propext
  constructor
  · intro hk t ht; have := hk t ht; simp only [mrg, hh t ht] at this; simpa using this
  · intro hk t ht; simp only [mrg, hh t ht]; simpa using hk t ht
theorem kp {A : List Nat} {e : Env} {d : Nat} {v : Value} (h : A.contains d = true) (hk : Keeps A env e) : Keeps A env (put e (some d) v) := by rw [keeps_put v h]; exact hk
theorem km {A : List Nat} {g : Env} : Keeps A env (mrg A g env) := by rw [keeps_mrg]; trivial
theorem km' {A B : List Nat} {g e : Env} (h : B.all (A.contains ·) = true) (hk : Keeps A env e) : Keeps A env (mrg B g e) := by rw [keeps_mrg' h]; exact hk
-- code
@[simp] theorem vc_skip : vc P T n .skip Q env M = Q .normal env M := nr rfl
@[simp] theorem vc_region {id : Nat} {l : List Oper} : vc P T n (.region id l.toArray false) Q env M = vOps P T l Q l env M := nr rfl
@[simp] theorem vc_seq {a b : Code} : vc P T n (.seq a b) Q env M = vc P T n a (thenQ (vc P T n b Q) Q) env M := nr rfl
@[simp] theorem vc_cond {c : Operand} {a b : Code} : vc P T n (.cond c a b) Q env M = vIf (ev env c) (vc P T n a Q) (vc P T n b Q) env M := nr rfl
@[simp] theorem vc_block {id : Nat} {c : Code} : vc P T n (.block id c) Q env M = vc P T n c (inBlk id Q) env M := nr rfl
@[simp] theorem vc_loop {c : Code} : vc P T n (.loop c) Q env M = CodeTo P n (.loop c) Q env M := nr rfl
@[simp] theorem vc_ret : vc P T n .ret Q env M = Q .ret env M := nr rfl
@[simp] theorem vc_exit {id : Nat} : vc P T n (.exit id) Q env M = Q (.exit id) env M := nr rfl
@[simp] theorem thenQ_n {A : Env → Mem → Prop} : thenQ A Q .normal env M = A env M := nr rfl
@[simp] theorem thenQ_r {A : Env → Mem → Prop} : thenQ A Q .ret env M = Q .ret env M := nr rfl
@[simp] theorem thenQ_e {A : Env → Mem → Prop} {i : Nat} : thenQ A Q (.exit i) env M = Q (.exit i) env M := nr rfl
@[simp] theorem inBlk_n {i : Nat} : inBlk i Q .normal env M = Q .normal env M := nr rfl
@[simp] theorem inBlk_r {i : Nat} : inBlk i Q .ret env M = Q .ret env M := nr rfl
@[simp] theorem inBlk_e {i j : Nat} : inBlk i Q (.exit j) env M = if j = i then Q .normal env M else Q (.exit j) env M := nr rfl
@[simp] theorem doneQ_n {rs : List ResultVar} : doneQ T rs K .normal env M = vDone (resAll T env M rs) K M := nr rfl
@[simp] theorem doneQ_r {rs : List ResultVar} : doneQ T rs K .ret env M = vDone (resAll T env M rs) K M := nr rfl
@[simp] theorem resAll_nil : resAll T env M [] = some [] := nr rfl
@[simp] theorem resAll_tmp {t : Tmp} {rs : List ResultVar} : resAll T env M (.tmp t :: rs) = (resAll T env M rs).map (env t :: ·) := by
  simp only [resAll, resOne]; cases resAll T env M rs <;> rfl
@[simp] theorem resAll_cell {a : Tmp} {t : TypeId} {rs : List ResultVar} : resAll T env M (.cell a t :: rs) = consO (resCell (env a) (T t) M) (resAll T env M rs) := by
  have e1 : resOne T env M (.cell a t) = resCell (env a) (T t) M := rfl
  conv => lhs; unfold resAll
  rw [e1]
  cases resCell (env a) (T t) M <;> cases resAll T env M rs <;> rfl
@[simp] theorem resCell_at {b o : Nat} {i : TI} : resCell (.pointer (some ⟨b, o, none⟩)) (some i) M = if i.d.agg then (M.sub? b o i.size).map (fun l => .agg l.toArray) else M.get? b o := nr rfl
@[simp] theorem consO_some {v : Value} {vs : List Value} : consO (some v) (some vs) = some (v :: vs) := nr rfl
@[simp] theorem vDone_some {vs : List Value} : vDone (some vs) K M = vRet K (resV vs) M := nr rfl
@[simp] theorem resV_one {v : Value} : resV [v] = v := nr rfl
@[simp] theorem resV_two {a b : Value} {l : List Value} : resV (a :: b :: l) = .tuple (a :: b :: l).toArray := nr rfl
@[simp] theorem resV_nil : resV [] = .tuple #[] := nr rfl
-- branches
theorem vIf_split {t : Bool} {A B : Env → Mem → Prop} (h1 : t = true → A env M) (h2 : t = false → B env M) : vIf (.bool t) A B env M := ⟨h1, h2⟩
@[simp] theorem vIf_t {A B : Env → Mem → Prop} : vIf (.bool true) A B env M = A env M := by simp [vIf]
@[simp] theorem vIf_f {A B : Env → Mem → Prop} : vIf (.bool false) A B env M = B env M := by simp [vIf]
@[simp] theorem vIf_not {t : Bool} {A B : Env → Mem → Prop} : vIf (.bool (!t)) A B env M = vIf (.bool t) B A env M := by cases t <;> simp [vIf]
theorem vIf_dt {p : Prop} [Decidable p] {A B : Env → Mem → Prop} (h : p) : vIf (.bool (decide p)) A B env M = A env M := by simp [vIf, h]
theorem vIf_df {p : Prop} [Decidable p] {A B : Env → Mem → Prop} (h : ¬ p) : vIf (.bool (decide p)) A B env M = B env M := by simp [vIf, h]
attribute [simp] vIf_dt vIf_df
@[simp] theorem vIf_eq {a b : Int} {A B : Env → Mem → Prop} (h : a = b) : vIf (.bool (a == b)) A B env M = A env M := by simp [vIf, h]
@[simp] theorem vIf_neq {a b : Int} {A B : Env → Mem → Prop} (h : ¬ a = b) : vIf (.bool (a == b)) A B env M = B env M := by simp [vIf, h]
@[simp] theorem vIf_eqN {a b : Nat} {A B : Env → Mem → Prop} (h : a = b) : vIf (.bool (a == b)) A B env M = A env M := by simp [vIf, h]
@[simp] theorem vIf_neqN {a b : Nat} {A B : Env → Mem → Prop} (h : ¬ a = b) : vIf (.bool (a == b)) A B env M = B env M := by simp [vIf, h]
@[simp] theorem vIf_bneN {a b : Nat} {A B : Env → Mem → Prop} : vIf (.bool (a != b)) A B env M = vIf (.bool (a == b)) B A env M := by
  have : (a != b) = !(a == b) := rfl
  rw [this, vIf_not]
@[simp] theorem vIf_bne {a b : Int} {A B : Env → Mem → Prop} : vIf (.bool (a != b)) A B env M = vIf (.bool (a == b)) B A env M := by
  have : (a != b) = !(a == b) := rfl
  rw [this, vIf_not]
-- operations
@[simp] theorem vOps_nil : vOps P T ops Q [] env M = Q .normal env M := nr rfl
@[simp] theorem vOps_plain {d : Option Tmp} {o : Op} {ty : TypeId} {pos : String} {af : Array Edge} : vOps P T ops Q (⟨d, o, ty, pos, af, none⟩ :: rest) env M = vOp P T o env (Kt (vOps P T ops Q rest) env d) M := nr rfl
@[simp] theorem vOps_guard {d : Option Tmp} {o : Op} {ty : TypeId} {pos : String} {af : Array Edge} {j : Nat} {b : Bool} : vOps P T ops Q (⟨d, o, ty, pos, af, some (j, b)⟩ :: rest) env M = vGd (yE ops env j) b (gA P T o d (vOps P T ops Q rest)) (gB d (vOps P T ops Q rest)) env M := nr rfl
@[simp] theorem Kt_at {r : Env → Mem → Prop} {d : Option Tmp} {v : Value} : Kt r env d v M = r (put env d v) M := nr rfl
@[simp] theorem gA_at {o : Op} {d : Option Tmp} {r : Env → Mem → Prop} : gA P T o d r env M = vOp P T o env (Kt r env d) M := nr rfl
@[simp] theorem gB_at {d : Option Tmp} {r : Env → Mem → Prop} : gB d r env M = r (put env d undef) M := nr rfl
theorem vGd_split {t : Option Bool} {b : Bool} {A B : Env → Mem → Prop} (h1 : t = some b → A env M) (h2 : t ≠ some b → B env M) : vGd t b A B env M := ⟨h1, h2⟩
@[simp] theorem vGd_tt {A B : Env → Mem → Prop} : vGd (some true) true A B env M = A env M := by simp [vGd]
@[simp] theorem vGd_tf {A B : Env → Mem → Prop} : vGd (some true) false A B env M = B env M := by simp [vGd]
@[simp] theorem vGd_ft {A B : Env → Mem → Prop} : vGd (some false) true A B env M = B env M := by simp [vGd]
@[simp] theorem vGd_ff {A B : Env → Mem → Prop} : vGd (some false) false A B env M = A env M := by simp [vGd]
@[simp] theorem vGd_none {b : Bool} {A B : Env → Mem → Prop} : vGd none b A B env M = B env M := by simp [vGd]
@[simp] theorem vGd_if {t : Bool} {A B : Env → Mem → Prop} : vGd (some t) true A B env M = vIf (.bool t) A B env M := by cases t <;> simp
@[simp] theorem vGd_if' {t : Bool} {A B : Env → Mem → Prop} : vGd (some t) false A B env M = vIf (.bool t) B A env M := by cases t <;> simp
@[simp] theorem yE_at {j : Nat} : yE ops env j = match (ops[j]?).bind (·.dst) with
  | some d => match env d with
    | .bool b => some b
    | _ => none
  | none => none := nr rfl
@[simp] theorem vR_ok {v : Value} : vR (.ok v) K M = K v M := nr rfl
@[simp] theorem vR_need {p : Prop} {v : Value} : vR (.need p v) K M = vBd p K v M := nr rfl
@[simp] theorem vR_no : vR .no K M = False := nr rfl
@[simp] theorem vBd_t {p : Prop} {v : Value} (h : p) : vBd p K v M = K v M := by simp [vBd, h]
@[simp] theorem vThen_true {q : Prop} : vThen True q = q := by simp [vThen]
@[simp] theorem vBd_true {v : Value} : vBd True K v M = K v M := by simp [vBd]
@[simp] theorem vThen_t {p q : Prop} (h : p) : vThen p q = q := by simp [vThen, h]
@[simp] theorem vOp_move {x : Operand} : vOp P T (.move x) env K M = K (ev env x) M := nr rfl
@[simp] theorem vOp_assign {x : Operand} : vOp P T (.assign x) env K M = K (ev env x) M := nr rfl
@[simp] theorem vOp_pick {c a b : Operand} : vOp P T (.pick c a b) env K M = vR (pickR (ev env c) (ev env a) (ev env b)) K M := nr rfl
@[simp] theorem vOp_alloc {e : TypeId} : vOp P T (.alloc e) env K M = vAlloc T e K M := nr rfl
@[simp] theorem vOp_box {e : TypeId} {x : Operand} : vOp P T (.box e x) env K M = vBox (ev env x) K M := nr rfl
@[simp] theorem vOp_build {t : TypeId} {ps : List (Nat × Operand)} : vOp P T (.build t ps.toArray) env K M = vR (buildR T t (ps.map fun p => (p.1, ev env p.2))) K M := nr rfl
@[simp] theorem vOp_buildS {t : TypeId} {k : Nat} {ps : List (Nat × Operand)} : vOp P T (.buildSlice t k ps.toArray) env K M = vBuildS T t k (ps.map fun p => (p.1, ev env p.2)) K M := nr rfl
@[simp] theorem vOp_load {t : TypeId} {x : Operand} : vOp P T (.load t x) env K M = vLoad T t (ev env x) K M := nr rfl
@[simp] theorem vOp_store {t : TypeId} {x v : Operand} : vOp P T (.store t x v) env K M = vStore T t (ev env x) (ev env v) K M := nr rfl
@[simp] theorem vOp_nil {x : Operand} : vOp P T (.nilCheck x) env K M = vR (nilR (ev env x)) K M := nr rfl
@[simp] theorem vOp_bin {op : BinOp} {t t' : TypeId} {x y : Operand} : vOp P T (.binOp op t x y t') env K M = vR (binR T op t (ev env x) (ev env y)) K M := nr rfl
@[simp] theorem vOp_un {op : UnOp} {t : TypeId} {x : Operand} : vOp P T (.unOp op t x) env K M = vR (unR op (ev env x)) K M := nr rfl
@[simp] theorem vOp_conv {s d : TypeId} {x : Operand} : vOp P T (.convert s d x) env K M = vConv T s d (ev env x) K M := nr rfl
@[simp] theorem vOp_iface {t : TypeId} {x : Operand} : vOp P T (.makeInterface t x) env K M = vR (ifaceR T t (ev env x)) K M := nr rfl
@[simp] theorem vOp_fn {fn : Fn} {a b : List Operand} : vOp P T (.makeFunc fn a.toArray b.toArray) env K M = K (.func fn (a.map (ev env)).toArray (b.map (ev env)).toArray) M := nr rfl
@[simp] theorem vOp_make {t : TypeId} {l c : Operand} : vOp P T (.makeSlice t l c) env K M = vMake T t (ev env l) (ev env c) K M := nr rfl
@[simp] theorem vOp_slice {t : TypeId} {x : Operand} {lo hi mx : Option Operand} : vOp P T (.slice t x lo hi mx) env K M = vR (sliceR T t (ev env x) (lo.map (ev env)) (hi.map (ev env)) (mx.map (ev env))) K M := nr rfl
@[simp] theorem vOp_fieldAddr {t : TypeId} {x : Operand} {f : Nat} : vOp P T (.fieldAddr t x f) env K M = vR (fieldAddrR T t (ev env x) f) K M := nr rfl
@[simp] theorem vOp_field {t : TypeId} {x : Operand} {f : Nat} : vOp P T (.field t x f) env K M = vR (fieldR T t (ev env x) f) K M := nr rfl
@[simp] theorem vOp_idxAddr {t : TypeId} {x i : Operand} : vOp P T (.indexAddr t x i) env K M = vR (idxAddrR T t (ev env x) (ev env i)) K M := nr rfl
@[simp] theorem vOp_idx {t : TypeId} {x i : Operand} : vOp P T (.index t x i) env K M = vR (idxR T t (ev env x) (ev env i)) K M := nr rfl
@[simp] theorem vOp_ext {x : Operand} {i : Nat} : vOp P T (.extract x i) env K M = vR (extR (ev env x) i) K M := nr rfl
@[simp] theorem vOp_call {f : Operand} {l : List Operand} {ts : Array TypeId} : vOp P T (.call ⟨.value f, l.toArray, ts⟩) env K M = vCallV P (ev env f) (l.map (ev env)) K M := nr rfl
@[simp] theorem vOp_builtin {b : Builtin} {l : List Operand} {ts : List TypeId} : vOp P T (.call ⟨.builtin b, l.toArray, ts.toArray⟩) env K M = vBuiltin T b ts (l.map (ev env)) K M := nr rfl
@[simp] theorem vCallV_at {g : FuncId} {a c args : List Value} : vCallV P (.func (.func g) a.toArray c.toArray) args K M = Does P g (a ++ args ++ c) M K := nr rfl
@[simp] theorem vLen {t : TypeId} {x : Value} : vBuiltin T .len [t] [x] K M = vR (lenR T t x) K M := nr rfl
@[simp] theorem vAppend {ts : List TypeId} {s x : Value} : vBuiltin T .append ts [s, x] K M = vApp T ts s x K M := nr rfl
@[simp] theorem vMin {ts : List TypeId} {a b : Value} : vBuiltin T .min ts [a, b] K M = vR (minR [a, b]) K M := nr rfl
@[simp] theorem vClear_b {t : TypeId} {x : Value} : vBuiltin T .clear [t] [x] K M = vClr T t x K M := nr rfl
@[simp] theorem vClr_D {t : TypeId} {x : Value} : vClr T t x K M = vClrD (T t) x K M := nr rfl
@[simp] theorem vClrD_none {e : TypeId} {bytes s n c : Nat} {z zz : Value} : vClrD (some ⟨.slc e 1 bytes z, s, zz⟩) (.slice none n c) K M = K (.tuple #[]) M := nr rfl
theorem vClrD_at {e : TypeId} {bytes s b o n c : Nat} {z zz : Value} {xs : List Value} {tot : Nat} (hM : M b = some (.cells true xs tot)) (h1 : o + n ≤ xs.length) (hz : flatV z = true) : (vClrD (some ⟨.slc e 1 bytes z, s, zz⟩) (.slice (some ⟨b, o, none⟩) n c) K M) = K (.tuple #[]) (if n = 0 then M else M.set b (.cells true (xs.take o ++ List.replicate n z ++ xs.drop (o + n)) tot)) := by
  cases n with
  | zero => rfl
  | succ n =>
    show vClrB (M b) b o (n + 1) z K M = _
    rw [hM, if_neg (by omega)]
    exact propext ⟨fun h => h.2, fun h => ⟨⟨h1, hz⟩, h⟩⟩
@[simp] theorem vMax {ts : List TypeId} {a b : Value} : vBuiltin T .max ts [a, b] K M = vR (maxR [a, b]) K M := nr rfl
@[simp] theorem pick_at {t : Bool} {a b : Value} : pickR (.bool t) a b = .ok (if t then a else b) := nr rfl
@[simp] theorem un_not {t : Bool} : unR .not (.bool t) = .ok (.bool !t) := nr rfl
@[simp] theorem un_neg {k : IntKind} {a : Int} : unR .neg (.int k a) = .ok (.int k (k.wrap (0 - a))) := nr rfl
@[simp] theorem outOpt_some {v : Value} : outOpt (some v) = .ok v := nr rfl
@[simp] theorem ext_at {vs : List Value} {i : Nat} : extR (.tuple vs.toArray) i = outOpt vs[i]? := by
  unfold extR
  dsimp only
  rw [List.getElem?_toArray]
end
section
variable {T : Tab} {t : TypeId} {k : IntKind} {a b : Int}
@[simp] theorem bin_add : binR T .add t (.int k a) (.int k b) = .ok (.int k (k.wrap (a + b))) := by simp [binR]
@[simp] theorem bin_sub : binR T .sub t (.int k a) (.int k b) = .ok (.int k (k.wrap (a - b))) := by simp [binR]
@[simp] theorem bin_mul : binR T .mul t (.int k a) (.int k b) = .ok (.int k (k.wrap (a * b))) := by simp [binR]
@[simp] theorem bin_quo : binR T .quo t (.int k a) (.int k b) = .need (b ≠ 0) (.int k (k.wrap (a.tdiv b))) := by simp [binR]
@[simp] theorem bin_rem : binR T .rem t (.int k a) (.int k b) = .need (b ≠ 0) (.int k (a.tmod b)) := by simp [binR]
@[simp] theorem bin_eql : binR T .eql t (.int k a) (.int k b) = .ok (.bool (a == b)) := by simp [binR]
@[simp] theorem bin_neq : binR T .neq t (.int k a) (.int k b) = .ok (.bool (a != b)) := by simp [binR]
@[simp] theorem bin_lss : binR T .lss t (.int k a) (.int k b) = .ok (.bool (decide (a < b))) := by simp [binR]
@[simp] theorem bin_leq : binR T .leq t (.int k a) (.int k b) = .ok (.bool (decide (a ≤ b))) := by simp [binR]
@[simp] theorem bin_gtr : binR T .gtr t (.int k a) (.int k b) = .ok (.bool (decide (b < a))) := by simp [binR]
@[simp] theorem bin_geq : binR T .geq t (.int k a) (.int k b) = .ok (.bool (decide (b ≤ a))) := by simp [binR]
@[simp] theorem bin_sadd {x y : List UInt8} : binR T .add t (str x) (str y) = .need (x.length + y.length ≤ 9223372036854775807) (str (x ++ y)) := nr rfl
@[simp] theorem bin_seql {x y : List UInt8} : binR T .eql t (str x) (str y) = .ok (.bool (x == y)) := nr rfl
@[simp] theorem bin_sneq {x y : List UInt8} : binR T .neq t (str x) (str y) = .ok (.bool (!(x == y))) := nr rfl
@[simp] theorem bin_slss {x y : List UInt8} : binR T .lss t (str x) (str y) = .ok (.bool (Op.bytesLess x y)) := nr rfl
@[simp] theorem bin_sleq {x y : List UInt8} : binR T .leq t (str x) (str y) = .ok (.bool (Op.bytesLess x y || x == y)) := nr rfl
@[simp] theorem bin_sgtr {x y : List UInt8} : binR T .gtr t (str x) (str y) = .ok (.bool (!(Op.bytesLess x y || x == y))) := nr rfl
@[simp] theorem bin_sgeq {x y : List UInt8} : binR T .geq t (str x) (str y) = .ok (.bool (!Op.bytesLess x y)) := nr rfl
theorem wrap64_eq {x : Int} (h1 : -9223372036854775808 ≤ x) (h2 : x ≤ 9223372036854775807) : IntKind.i64.wrap x = x := by
  simp [IntKind.wrap, IntKind.bits, IntKind.signed]; omega
@[simp] theorem wrap_add {x y : Int} (h : -9223372036854775808 ≤ x + y ∧ x + y ≤ 9223372036854775807) : IntKind.i64.wrap (x + y) = x + y := wrap64_eq h.1 h.2
@[simp] theorem wrap_sub {x y : Int} (h : -9223372036854775808 ≤ x - y ∧ x - y ≤ 9223372036854775807) : IntKind.i64.wrap (x - y) = x - y := wrap64_eq h.1 h.2
@[simp] theorem wrap_mul {x y : Int} (h : -9223372036854775808 ≤ x * y ∧ x * y ≤ 9223372036854775807) : IntKind.i64.wrap (x * y) = x * y := wrap64_eq h.1 h.2
@[simp] theorem wrap_u8 {x : Int} (h : 0 ≤ x ∧ x ≤ 255) : IntKind.u8.wrap x = x := by
  simp [IntKind.wrap, IntKind.bits, IntKind.signed]; omega
@[simp] theorem wrap_var {x : Int} (h : -9223372036854775808 ≤ x ∧ x ≤ 9223372036854775807) : IntKind.i64.wrap x = x := wrap64_eq h.1 h.2
end

/-! ### Operations that look a type up -/
section
variable {T : Tab} {t : TypeId} {K : Value → Mem → Prop} {M : Mem} {k k' : IntKind} {sz s bytes g o c n : Nat} {z zz v : Value} {e : TypeId} {i : Int}
@[simp] theorem agg_bool : TD.agg .bool = false := nr rfl
@[simp] theorem agg_int : TD.agg (.int k) = false := nr rfl
@[simp] theorem agg_str : TD.agg .str = false := nr rfl
@[simp] theorem agg_flat : TD.agg .flat = false := nr rfl
@[simp] theorem agg_iface : TD.agg .iface = false := nr rfl
@[simp] theorem agg_func : TD.agg .func = false := nr rfl
@[simp] theorem agg_slc : TD.agg (.slc e sz bytes z) = false := nr rfl
@[simp] theorem agg_strct {fs : List (Nat × Nat × Bool)} : TD.agg (.strct fs) = true := nr rfl
@[simp] theorem agg_arr {b : Bool} : TD.agg (.arr n sz b) = true := nr rfl
@[simp] theorem flat_int : flatV (.int k i) = true := nr rfl
@[simp] theorem flat_bool {b : Bool} : flatV (.bool b) = true := nr rfl
@[simp] theorem flat_str {l : List UInt8} : flatV (str l) = true := nr rfl
@[simp] theorem flat_slice {a : Option Addr} : flatV (.slice a n c) = true := nr rfl
@[simp] theorem flat_ptr {a : Option Addr} : flatV (.pointer a) = true := nr rfl
@[simp] theorem flat_func {f : Fn} {a b : Array Value} : flatV (.func f a b) = true := nr rfl
@[simp] theorem flat_nilF : flatV .nilFunc = true := nr rfl
@[simp] theorem eqD_bool : eqD (some ⟨.bool, s, z⟩) .bool v = .ok v := nr rfl
@[simp] theorem eqD_slice : eqD (some ⟨.slc e sz bytes z, s, zz⟩) .slice v = .ok v := nr rfl
@[simp] theorem eqD_iface : eqD (some ⟨.iface, s, z⟩) .iface v = .ok v := nr rfl
@[simp] theorem bin_beql {a b : Bool} : binR T .eql t (.bool a) (.bool b) = eqD (T t) .bool (.bool (a == b)) := nr rfl
@[simp] theorem bin_bneq {a b : Bool} : binR T .neq t (.bool a) (.bool b) = eqD (T t) .bool (.bool (!(a == b))) := nr rfl
@[simp] theorem bin_seqnil {a : Option Addr} {n' c' : Nat} : binR T .eql t (.slice a n c) (.slice none n' c') = eqD (T t) .slice (.bool a.isNone) := nr rfl
@[simp] theorem bin_snenil {a : Option Addr} {n' c' : Nat} : binR T .neq t (.slice a n c) (.slice none n' c') = eqD (T t) .slice (.bool (!a.isNone)) := nr rfl
@[simp] theorem bin_ieqnil : binR T .eql t (.iface e v) .nilIface = eqD (T t) .iface (.bool false) := nr rfl
@[simp] theorem bin_inenil : binR T .neq t (.iface e v) .nilIface = eqD (T t) .iface (.bool true) := nr rfl
@[simp] theorem bin_shl {a b : Int} : binR T .shl t (.int k a) (.int k' b) = .need (0 ≤ b) (.int k (k.wrap (a * 2 ^ (min b.toNat k.bits)))) := nr rfl
@[simp] theorem bin_shr {a b : Int} : binR T .shr t (.int k a) (.int k' b) = .need (0 ≤ b) (.int k (a.fdiv (2 ^ (min b.toNat k.bits)))) := nr rfl
@[simp] theorem bin_and {a b : Int} : binR T .and t (.int k a) (.int k b) = .ok (.int k (k.wrap (BitVec.ofInt k.bits a &&& BitVec.ofInt k.bits b).toNat)) := by simp [binR]
@[simp] theorem bin_or {a b : Int} : binR T .or t (.int k a) (.int k b) = .ok (.int k (k.wrap (BitVec.ofInt k.bits a ||| BitVec.ofInt k.bits b).toNat)) := by simp [binR]
@[simp] theorem bin_xor {a b : Int} : binR T .xor t (.int k a) (.int k b) = .ok (.int k (k.wrap (BitVec.ofInt k.bits a ^^^ BitVec.ofInt k.bits b).toNat)) := by simp [binR]
@[simp] theorem lo_none : loOf none = some 0 := nr rfl
@[simp] theorem lo_some : loOf (some (.int k i)) = some i := nr rfl
@[simp] theorem hi_none : hiOf n none = some (n : Int) := nr rfl
@[simp] theorem hi_some : hiOf n (some (.int k i)) = some i := nr rfl
@[simp] theorem sliceR_D {x : Value} {lo hi mx : Option Value} : sliceR T t x lo hi mx = sliceD x lo hi mx (T t) := nr rfl
@[simp] theorem slice_str {l : List UInt8} {lo hi : Option Value} : sliceD (str l) lo hi none (some ⟨.str, s, z⟩) = match loOf lo, hiOf l.length hi with
  | some a, some b => .need (0 ≤ a ∧ a ≤ b ∧ b ≤ l.length) (str ((l.take b.toNat).drop a.toNat))
  | _, _ => .no := by
  unfold sliceD str; dsimp only [sl]
  cases loOf lo <;> cases hiOf l.length hi <;> rfl
@[simp] theorem slice_slc {lo hi : Option Value} : sliceD (.slice (some ⟨g, o, none⟩) n c) lo hi none (some ⟨.slc e sz bytes z, s, zz⟩) = match loOf lo, hiOf n hi with
  | some a, some b => .need (0 ≤ a ∧ a ≤ b ∧ b ≤ n ∧ n ≤ c) (.slice (some ⟨g, offAt o a.toNat c sz, none⟩) (b.toNat - a.toNat) (c - a.toNat))
  | _, _ => .no := by
  unfold sliceD; dsimp only
  cases loOf lo <;> cases hiOf n hi <;> rfl
@[simp] theorem slice_slc3 {lo hi : Option Value} {m : Int} : sliceD (.slice (some ⟨g, o, none⟩) n c) lo hi (some (.int k m)) (some ⟨.slc e sz bytes z, s, zz⟩) = match loOf lo, hiOf n hi with
  | some a, some b => .need (0 ≤ a ∧ a ≤ b ∧ b ≤ m ∧ m ≤ c ∧ hi ≠ none) (.slice (some ⟨g, offAt o a.toNat m.toNat sz, none⟩) (b.toNat - a.toNat) (m.toNat - a.toNat))
  | _, _ => .no := by
  unfold sliceD; dsimp only
  cases loOf lo <;> cases hiOf n hi <;> rfl
@[simp] theorem slice_arr {lo hi : Option Value} {b : Bool} : sliceD (.pointer (some ⟨g, o, none⟩)) lo hi none (some ⟨.arr n sz b, s, zz⟩) = match loOf lo, hiOf n hi with
  | some a, some b => .need (0 ≤ a ∧ a ≤ b ∧ b ≤ n) (.slice (some ⟨g, offAt o a.toNat n sz, none⟩) (b.toNat - a.toNat) (n - a.toNat))
  | _, _ => .no := by
  unfold sliceD; dsimp only
  cases loOf lo <;> (try rfl) <;> (dsimp only; cases hiOf n hi <;> rfl)
@[simp] theorem offAt_lt {a m : Nat} (h : a < m) : offAt o a m sz = o + a * sz := by unfold offAt; rw [if_neg (by omega)]
@[simp] theorem offAt_zero {m : Nat} : offAt o 0 m sz = o := by unfold offAt; split <;> simp
@[simp] theorem idxR_D {x i : Value} : idxR T t x i = idxD x i (T t) := nr rfl
@[simp] theorem idx_str {l : List UInt8} : idxD (str l) (.int k i) (some ⟨.str, s, z⟩) = .need (0 ≤ i ∧ i < l.length) (.int .u8 (l.getD i.toNat 0).toNat) := nr rfl
@[simp] theorem idx_arr {cs : List Value} {b : Bool} : idxD (.agg cs.toArray) (.int k i) (some ⟨.arr n sz b, s, z⟩) = match partR cs (i.toNat * sz) sz b with
  | some v => .need (0 ≤ i ∧ i < n) v
  | none => .no := nr rfl
@[simp] theorem idxAddrR_D {x i : Value} : idxAddrR T t x i = idxAddrD x i (T t) := nr rfl
@[simp] theorem idxAddr_slc : idxAddrD (.slice (some ⟨g, o, none⟩) n c) (.int k i) (some ⟨.slc e sz bytes z, s, zz⟩) = .need (0 ≤ i ∧ i < n) (.pointer (some ⟨g, o + i.toNat * sz, none⟩)) := nr rfl
@[simp] theorem idxAddr_arr {b : Bool} : idxAddrD (.pointer (some ⟨g, o, none⟩)) (.int k i) (some ⟨.arr n sz b, s, zz⟩) = .need (0 ≤ i ∧ i < n) (.pointer (some ⟨g, o + i.toNat * sz, none⟩)) := nr rfl
@[simp] theorem fieldAddrR_D {x : Value} {f : Nat} : fieldAddrR T t x f = fieldAddrD x f (T t) := nr rfl
def fieldAt2 (g o : Nat) : Option (Nat × Nat × Bool) → Out
  | some (off, sz, _) => .need (sz ≠ 0) (.pointer (some ⟨g, o + off, none⟩))
  | none => .no
@[simp] theorem fieldAt2_some {off : Nat} {b : Bool} : fieldAt2 g o (some (off, sz, b)) = .need (sz ≠ 0) (.pointer (some ⟨g, o + off, none⟩)) := nr rfl
@[simp] theorem fieldAddr_st {fs : List (Nat × Nat × Bool)} {f : Nat} : fieldAddrD (.pointer (some ⟨g, o, none⟩)) f (some ⟨.strct fs, s, zz⟩) = fieldAt2 g o fs[f]? := by
  unfold fieldAddrD fieldAt2; rfl
@[simp] theorem fieldR_D {x : Value} {f : Nat} : fieldR T t x f = fieldD x f (T t) := nr rfl
def partAt2 (cs : List Value) : Option (Nat × Nat × Bool) → Out
  | some (off, sz, b) => outOpt (partR cs off sz b)
  | none => .no
@[simp] theorem partAt2_some {cs : List Value} {off : Nat} {b : Bool} : partAt2 cs (some (off, sz, b)) = outOpt (partR cs off sz b) := nr rfl
@[simp] theorem field_st {cs : List Value} {fs : List (Nat × Nat × Bool)} {f : Nat} : fieldD (.agg cs.toArray) f (some ⟨.strct fs, s, zz⟩) = partAt2 cs fs[f]? := by
  unfold fieldD partAt2
  dsimp only
  cases fs[f]? with
  | none => rfl
  | some x => obtain ⟨a, b, c⟩ := x; dsimp only; cases partR cs a b c <;> rfl
@[simp] theorem partR_flat {cs : List Value} {off : Nat} : partR cs off sz false = cs[off]? := nr rfl
@[simp] theorem partR_agg {cs : List Value} {off : Nat} : partR cs off sz true = some (.agg ((cs.drop off).take sz).toArray) := nr rfl
@[simp] theorem convR_D {a b : TypeId} {x : Value} : convR T a b x = convD x (T a) (T b) := nr rfl
@[simp] theorem vConv_D {a b : TypeId} {x : Value} : vConv T a b x K M = vConvD T (T a) (T b) x K M := nr rfl
@[simp] theorem conv_int {n' : Nat} : vConvD T (some ⟨.int k, n, z⟩) (some ⟨.int k', n', zz⟩) (.int k i) K M = K (.int k' (k'.wrap i)) M := nr rfl
@[simp] theorem conv_str {n' : Nat} {l : List UInt8} : vConvD T (some ⟨.str, n, z⟩) (some ⟨.str, n', zz⟩) (str l) K M = K (str l) M := nr rfl
theorem encode_low {i : Int} (h : 0 ≤ i ∧ i < 128) : Utf8.encode i = (⟨⟨[UInt8.ofNat i.toNat]⟩⟩ : ByteArray) := by
  unfold Utf8.encode
  have hv : Utf8.valid i = true := by unfold Utf8.valid; simp; omega
  simp only [hv, if_true]
  rw [if_pos (by omega)]
@[simp] theorem conv_rune {n' : Nat} (h : 0 ≤ i ∧ i < 128) : vConvD T (some ⟨.int k, n, z⟩) (some ⟨.str, n', zz⟩) (.int k' i) K M = K (str [UInt8.ofNat i.toNat]) M := by
  have e := encode_low h
  show vR (convD (.int k' i) (some ⟨.int k, n, z⟩) (some ⟨.str, n', zz⟩)) K M = _
  unfold convD
  show vR (.ok (.string (Utf8.encode i))) K M = _
  rw [e]
  rfl
@[simp] theorem conv_s2b {l : List UInt8} : vConvD T (some ⟨.str, n, z⟩) (some ⟨.slc e 1 bytes v, s, zz⟩) (str l) K M = vThen (isByte (T e) = true) (vNewC (bytesV l) K M) := nr rfl
@[simp] theorem isByte_u8 : isByte (some ⟨.int .u8, n, z⟩) = true := nr rfl
@[simp] theorem conv_b2s : vConvD T (some ⟨.slc e 1 bytes v, s, zz⟩) (some ⟨.str, n, z⟩) (.slice (some ⟨g, o, none⟩) sz c) K M = vThen (isByte (T e) = true) (vB2S1 (M.sub? g o sz) K M) := nr rfl
@[simp] theorem conv_b2s_nil : vConvD T (some ⟨.slc e 1 bytes v, s, zz⟩) (some ⟨.str, n, z⟩) (.slice none sz c) K M = vThen (isByte (T e) = true) (vBd True K (str []) M) := nr rfl
def vStr (r : Option (List UInt8)) (K : Value → Mem → Prop) (M : Mem) : Prop :=
  match r with
  | some l => K (str l) M
  | none => False
@[simp] theorem vStr_some {l : List UInt8} : vStr (some l) K M = K (str l) M := nr rfl
@[simp] theorem vB2S1_some {l : List Value} : vB2S1 (some l) K M = vStr (decB l) K M := by
  unfold vB2S1 vStr; dsimp only; cases decB l <;> simp [vBd]
attribute [simp] decB_bytesV
@[simp] theorem decB_nil : decB [] = some [] := nr rfl
@[simp] theorem decB_cons {l : List Value} {a : Int} : decB (.int .u8 a :: l) = (decB l).map fun r => UInt8.ofNat a.toNat :: r := nr rfl
@[simp] theorem lenR_D {x : Value} : lenR T t x = lenD x (T t) := nr rfl
@[simp] theorem len_str {l : List UInt8} : lenD (str l) (some ⟨.str, s, z⟩) = .ok (.int .i64 l.length) := nr rfl
@[simp] theorem len_slc {a : Option Addr} : lenD (.slice a n c) (some ⟨.slc e sz bytes z, s, zz⟩) = .ok (.int .i64 n) := nr rfl
@[simp] theorem min_at {a b : Int} : minR [.int k a, .int k' b] = .ok (.int k (if b < a then b else a)) := nr rfl
@[simp] theorem max_at {a b : Int} : maxR [.int k a, .int k' b] = .ok (.int k (if a < b then b else a)) := nr rfl
@[simp] theorem nil_ptr {a : Addr} : nilR (.pointer (some a)) = .ok (.pointer (some a)) := nr rfl
@[simp] theorem nil_func {f : FuncId} {a b : Array Value} : nilR (.func (.func f) a b) = .ok (.func (.func f) a b) := nr rfl
@[simp] theorem ifaceR_D {x : Value} : ifaceR T t x = ifaceD t x (T t) := nr rfl
@[simp] theorem vAlloc_D : vAlloc T t K M = vAllocD (T t) K M := nr rfl
@[simp] theorem vAlloc_some {i : TI} : vAllocD (some i) K M = vBox i.zero K M := nr rfl
@[simp] theorem vBox_flat {v : Value} (h : flatV v = true) : vBox v K M = vNew [v] aVal K M := by unfold vBox; rw [flat_cells h]
@[simp] theorem vBox_agg {l : List Value} : vBox (.agg l.toArray) K M = vNew l aVal K M := nr rfl
@[simp] theorem aVal_at {b : Nat} : aVal b = .pointer (some ⟨b, 0, none⟩) := nr rfl
@[simp] theorem vBuildS_D {len : Nat} {ps : List (Nat × Value)} : vBuildS T t len ps K M = vBuildSD (T t) len ps K M := nr rfl
@[simp] theorem vBuildS_one {len : Nat} {ps : List (Nat × Value)} : vBuildSD (some ⟨.slc e 1 bytes z, s, zz⟩) len ps K M = vThen (len ≤ 16777216 ∧ flatV z = true ∧ ∀ p ∈ ps, p.1 < len ∧ flatV p.2 = true)
      (vNew (fillL ps (List.replicate len z)) (fun b => .slice (some ⟨b, 0, none⟩) len len) K M) := nr rfl
@[simp] theorem fillL_nil {l : List Value} : fillL [] l = l := nr rfl
@[simp] theorem fillL_cons {j : Nat} {x : Value} {ps : List (Nat × Value)} {l : List Value} : fillL ((j, x) :: ps) l = fillL ps (l.set j x) := nr rfl
@[simp] theorem vLoad_D {x : Value} : vLoad T t x K M = vLoadD x (T t) K M := nr rfl
@[simp] theorem vLoad_at {i : TI} : vLoadD (.pointer (some ⟨g, o, none⟩)) (some i) K M = if i.d.agg then vGets (M.sub? g o i.size) K M else vGet (M.get? g o) K M := nr rfl
@[simp] theorem vGet_some : vGet (some v) K M = K v M := nr rfl
@[simp] theorem vGets_some {l : List Value} : vGets (some l) K M = K (.agg l.toArray) M := nr rfl
@[simp] theorem get_put {b : Nat} {w : Bool} {xs : List Value} : (M.put b (.cells w xs n)).get? b o = xs[o]? := by simp [Mem.get?]
@[simp] theorem get_ne {b : Nat} {B : Blk} (h : g ≠ b) : (M.put b B).get? g o = M.get? g o := by simp [Mem.get?, put_ne _ _ h]
open Classical in
/-- A value on a condition. -/
noncomputable def optIf {α : Type} (p : Prop) (v : α) : Option α := if p then some v else none
@[simp] theorem optIf_true {α : Type} {v : α} : optIf True v = some v := by simp [optIf]
@[simp] theorem optIf_t {α : Type} {p : Prop} {v : α} (h : p) : optIf p v = some v := by simp [optIf, h]
@[simp] theorem sub_put {b : Nat} {w : Bool} {xs : List Value} : (M.put b (.cells w xs sz)).sub? b o n = optIf (o + n ≤ xs.length) ((xs.drop o).take n) := by
  unfold Mem.sub? optIf; rw [put_same]
  by_cases h : o + n ≤ xs.length <;> simp [h]
attribute [simp] bytesV_length
@[simp] theorem sub_ne {b : Nat} {B : Blk} (h : g ≠ b) : (M.put b B).sub? g o n = M.sub? g o n := by simp [Mem.sub?, put_ne _ _ h]
@[simp] theorem put_ne_s {b : Nat} {B : Blk} (h : g ≠ b) : (M.put b B) g = M g := put_ne M B h
@[simp] theorem vStore_D {x v : Value} : vStore T t x v K M = vStoreD x v (T t) K M := nr rfl
@[simp] theorem vStore_at {x : Value} {i : TI} : vStoreD (.pointer (some ⟨g, o, none⟩)) x (some i) K M = if i.d.agg then vThen (x.cells.size = i.size) (vSt (M g) g o x.cells.toList K M) else vThen (i.size = 1) (vSt1 (M g) g o x K M) := nr rfl
@[simp] theorem vSt1_own {x : Value} {xs : List Value} : vSt1 (some (.cells true xs n)) g o x K M = vBd (o < xs.length ∧ flatV x = true) K undef (M.set g (.cells true (xs.set o x) n)) := nr rfl
@[simp] theorem vSt_own {vs xs : List Value} : vSt (some (.cells true xs n)) g o vs K M = vThen (o + vs.length ≤ xs.length ∧ xs.length ≤ n ∧ ∀ v ∈ vs, flatV v = true) (vBd True K undef (M.set g (.cells true (splice xs o vs) n))) := nr rfl
@[simp] theorem cells_agg {l : List Value} : (Value.agg l.toArray).cells = l.toArray := nr rfl
attribute [simp] set_same
@[simp] theorem set_ne_s {b : Nat} {B B' : Blk} (h : g ≠ b) : (M.put b B).set g B' = (M.set g B').put b B := set_ne M B B' h
@[simp] theorem del_same_s {b : Nat} {B : Blk} (h : M b = none) : (M.put b B).del b = M := del_same M b B h
@[simp] theorem del_ne_s {b : Nat} {B : Blk} (h : g ≠ b) : (M.put b B).del g = (M.del g).put b B := del_ne M B h
@[simp] theorem vMake_D {l c : Value} : vMake T t l c K M = vMakeD l c (T t) K M := nr rfl
@[simp] theorem vMake_at {l c : Int} : vMakeD (.int k l) (.int k' c) (some ⟨.slc e 1 bytes z, s, zz⟩) K M = vThen (0 ≤ l ∧ l ≤ c ∧ c ≤ 1099511627776 ∧ bytes ≤ 32 ∧ flatV z = true)
      (vNew (List.replicate c.toNat z) (fun b => .slice (some ⟨b, 0, none⟩) l.toNat c.toNat) K M) := nr rfl
@[simp] theorem vApp_two {a b : TypeId} {x y : Value} : vApp T [a, b] x y K M = vAppD (T a) (T b) x y K M := nr rfl
@[simp] theorem vApp_nil {d : Option TI} {x : Value} : vAppD (some ⟨.slc e 1 bytes z, s, zz⟩) d (.slice none 0 0) x K M = vThen (okSrc d = true ∧ flatV z = true ∧ 1 ≤ bytes ∧ bytes ≤ 32) (vApp0 bytes (srcOf M x) K M) := nr rfl
@[simp] theorem vApp_own {d : Option TI} {x : Value} : vAppD (some ⟨.slc e 1 bytes z, s, zz⟩) d (.slice (some ⟨g, 0, none⟩) n c) x K M = vThen (okSrc d = true ∧ flatV z = true ∧ 1 ≤ bytes ∧ bytes ≤ 32) (vApp2 bytes (M g) g n c (srcOf M x) K M) := nr rfl
@[simp] theorem okSrc_slc : okSrc (some ⟨.slc e sz bytes z, s, zz⟩) = true := nr rfl
@[simp] theorem okSrc_str : okSrc (some ⟨.str, s, zz⟩) = true := nr rfl
@[simp] theorem src_nil : srcOf M (.slice none 0 c) = some [] := nr rfl
@[simp] theorem src_slc : srcOf M (.slice (some ⟨g, o, none⟩) n c) = M.sub? g o n := nr rfl
@[simp] theorem src_str {l : List UInt8} : srcOf M (str l) = some (bytesV l) := nr rfl
@[simp] theorem vApp0_nil : vApp0 bytes (some []) K M = K (.slice none 0 0) M := by simp [vApp0, vBd]
@[simp] theorem vApp0_cons {x : Value} {xs : List Value} : vApp0 bytes (some (x :: xs)) K M = vThen ((xs.length + 1) * bytes ≤ 70368744177664) (vNewC (x :: xs) K M) := nr rfl
@[simp] theorem vApp2_own {xs news : List Value} {m : Nat} : vApp2 bytes (some (.cells true xs m)) g n c (some news) K M = vThen (n = xs.length ∧ c = m ∧ (n + news.length) * bytes ≤ 70368744177664 ∧ ∀ v ∈ news, flatV v = true) (vNewC (xs ++ news) K (M.del g)) := nr rfl
@[simp] theorem buildR_D {ps : List (Nat × Value)} : buildR T t ps = buildD ps (T t) := nr rfl
@[simp] theorem build_st {ps : List (Nat × Value)} {fs : List (Nat × Nat × Bool)} : buildD ps (some ⟨.strct fs, s, z⟩) = aggOpt (buildL (fun i => (fs[i]?).map fun x => (x.1, x.2.1)) z.cells.toList ps) := nr rfl
@[simp] theorem build_arr {ps : List (Nat × Value)} {b : Bool} : buildD ps (some ⟨.arr n sz b, s, z⟩) = aggOpt (buildL (fun i => some (i * sz, sz)) z.cells.toList ps) := nr rfl
@[simp] theorem buildL_nil {fs : Nat → Option (Nat × Nat)} {cs : List Value} : buildL fs cs [] = some cs := nr rfl
@[simp] theorem buildL_cons {fs : Nat → Option (Nat × Nat)} {cs : List Value} {i : Nat} {v : Value} {rest : List (Nat × Value)} : buildL fs cs ((i, v) :: rest) = buildAt fs cs rest v (fs i) := by
  unfold buildAt
  conv => lhs; unfold buildL
  all_goals (cases fs i <;> rfl)
@[simp] theorem buildAt_some {fs : Nat → Option (Nat × Nat)} {cs : List Value} {v : Value} {rest : List (Nat × Value)} {off sz : Nat} : buildAt fs cs rest v (some (off, sz)) = if v.cells.size = sz ∧ off + sz ≤ cs.length then buildL fs (splice cs off v.cells.toList) rest else none := nr rfl
@[simp] theorem cells_slice {a : Option Addr} {n c : Nat} : (Value.slice a n c).cells = #[.slice a n c] := nr rfl
@[simp] theorem cells_str {l : List UInt8} : (str l).cells = #[str l] := nr rfl
@[simp] theorem cells_int {k : IntKind} {i : Int} : (Value.int k i).cells = #[.int k i] := nr rfl
@[simp] theorem cells_nilFunc : Value.nilFunc.cells = #[.nilFunc] := nr rfl
@[simp] theorem cells_func {f : Fn} {a c : Array Value} : (Value.func f a c).cells = #[.func f a c] := nr rfl
@[simp] theorem cells_ptr {a : Option Addr} : (Value.pointer a).cells = #[.pointer a] := nr rfl
@[simp] theorem cells_bool {b : Bool} : (Value.bool b).cells = #[.bool b] := nr rfl
@[simp] theorem cells_agg' {l : Array Value} : (Value.agg l).cells = l := nr rfl
@[simp] theorem splice_at {cs vs : List Value} {o : Nat} : splice cs o vs = cs.take o ++ vs ++ cs.drop (o + vs.length) := nr rfl
@[simp] theorem aggOpt_some {l : List Value} : aggOpt (some l) = .ok (.agg l.toArray) := nr rfl
end
/-! ### Regions that draw their order -/
section
variable {P : Program} {T : Tab} {n : Nat} {Q : Exit → Env → Mem → Prop} {env : Env} {M : Mem} {K : Value → Mem → Prop} {ops rest : List Oper}
@[simp] theorem vQs_nil : vQs P T ops Q [] env M = Q .normal env M := nr rfl
@[simp] theorem vQs_plain {d : Option Tmp} {o : Op} {ty : TypeId} {pos : String} {af : Array Edge} : vQs P T ops Q (⟨d, o, ty, pos, af, none⟩ :: rest) env M = vQ P T o env (Kt (vQs P T ops Q rest) env d) M := nr rfl
@[simp] theorem vQs_guard {d : Option Tmp} {o : Op} {ty : TypeId} {pos : String} {af : Array Edge} {j : Nat} {b : Bool} : vQs P T ops Q (⟨d, o, ty, pos, af, some (j, b)⟩ :: rest) env M = vGd (yE ops env j) b (gQ P T o d (vQs P T ops Q rest)) (gB d (vQs P T ops Q rest)) env M := nr rfl
@[simp] theorem gQ_at {o : Op} {d : Option Tmp} {r : Env → Mem → Prop} : gQ P T o d r env M = vQ P T o env (Kt r env d) M := nr rfl
@[simp] theorem vQ_move {x : Operand} : vQ P T (.move x) env K M = vOp P T (.move x) env K M := nr rfl
@[simp] theorem vQ_assign {x : Operand} : vQ P T (.assign x) env K M = vOp P T (.assign x) env K M := nr rfl
@[simp] theorem vQ_pick {c a b : Operand} : vQ P T (.pick c a b) env K M = vOp P T (.pick c a b) env K M := nr rfl
@[simp] theorem vQ_load {t : TypeId} {x : Operand} : vQ P T (.load t x) env K M = vOp P T (.load t x) env K M := nr rfl
@[simp] theorem vQ_bin {op : BinOp} {t t' : TypeId} {x y : Operand} : vQ P T (.binOp op t x y t') env K M = vOp P T (.binOp op t x y t') env K M := nr rfl
@[simp] theorem vQ_un {op : UnOp} {t : TypeId} {x : Operand} : vQ P T (.unOp op t x) env K M = vOp P T (.unOp op t x) env K M := nr rfl
@[simp] theorem vQ_conv {a b : TypeId} {x : Operand} : vQ P T (.convert a b x) env K M = vR (convR T a b (ev env x)) K M := nr rfl
@[simp] theorem conv2_int {k k' : IntKind} {m m' : Nat} {z zz : Value} {i : Int} : convD (.int k i) (some ⟨.int k, m, z⟩) (some ⟨.int k', m', zz⟩) = .ok (.int k' (k'.wrap i)) := nr rfl
@[simp] theorem conv2_str {l : List UInt8} {m m' : Nat} {z zz : Value} : convD (str l) (some ⟨.str, m, z⟩) (some ⟨.str, m', zz⟩) = .ok (str l) := nr rfl
@[simp] theorem vQ_slice {t : TypeId} {x : Operand} {lo hi mx : Option Operand} : vQ P T (.slice t x lo hi mx) env K M = vOp P T (.slice t x lo hi mx) env K M := nr rfl
@[simp] theorem vQ_fieldAddr {t : TypeId} {x : Operand} {f : Nat} : vQ P T (.fieldAddr t x f) env K M = vOp P T (.fieldAddr t x f) env K M := nr rfl
@[simp] theorem vQ_field {t : TypeId} {x : Operand} {f : Nat} : vQ P T (.field t x f) env K M = vOp P T (.field t x f) env K M := nr rfl
@[simp] theorem vQ_idxAddr {t : TypeId} {x i : Operand} : vQ P T (.indexAddr t x i) env K M = vOp P T (.indexAddr t x i) env K M := nr rfl
@[simp] theorem vQ_idx {t : TypeId} {x i : Operand} : vQ P T (.index t x i) env K M = vOp P T (.index t x i) env K M := nr rfl
@[simp] theorem vQ_ext {x : Operand} {i : Nat} : vQ P T (.extract x i) env K M = vOp P T (.extract x i) env K M := nr rfl
@[simp] theorem vQ_nil {x : Operand} : vQ P T (.nilCheck x) env K M = vOp P T (.nilCheck x) env K M := nr rfl
@[simp] theorem vQ_len {x : Operand} {t : TypeId} : vQ P T (.call ⟨.builtin .len, [x].toArray, [t].toArray⟩) env K M = vR (lenR T t (ev env x)) K M := nr rfl
@[simp] theorem vQ_min {l : List Operand} {ts : Array TypeId} : vQ P T (.call ⟨.builtin .min, l.toArray, ts⟩) env K M = vR (minR (l.map (ev env))) K M := nr rfl
@[simp] theorem vQ_max {l : List Operand} {ts : Array TypeId} : vQ P T (.call ⟨.builtin .max, l.toArray, ts⟩) env K M = vR (maxR (l.map (ev env))) K M := nr rfl
@[simp] theorem vQ_call {f : Operand} {l : List Operand} {ts : Array TypeId} : vQ P T (.call ⟨.value f, l.toArray, ts⟩) env K M = vQCall P (ev env f) (l.map (ev env)) K M := nr rfl
theorem vQCall_at {g : FuncId} {a c args : List Value} {v : Value} (h : Does P g (a ++ args ++ c) M fun v' M' => v' = v ∧ M' = M) (hk : K v M) : vQCall P (.func (.func g) a.toArray c.toArray) args K M := ⟨v, h, hk⟩
end
theorem ret_of {R : Value → Mem → Prop} {v : Value} {M : Mem} (h : R v M) : vRet R v M := ⟨M, Sub.refl M, h⟩
theorem ret_sub {R : Value → Mem → Prop} {v : Value} {M M1 : Mem} (hs : Sub M1 M) (h : R v M1) : vRet R v M := ⟨M1, hs, h⟩
end Go.Proofs.YthpcojnpiggaiaaGreat
