/- The ground of a small calculus of own making: what a call does to a part of memory that is told as a list of blocks. -/
import Derived.Deep.LoopGhost
import Derived.Laws.Sem
namespace Go.Proofs.Ytbefijbmgmbphaa
open Go

/-- The temporaries, as a function. -/
abbrev Env := Nat → Value
def ev (env : Env) : Operand → Value
  | .tmp t => env t
  | .const v => v
  | .global g => .pointer (some ⟨g, 0, none⟩)
  | .func f => .func (.func f) #[] #[]
def put (env : Env) (d : Option Tmp) (v : Value) : Env :=
  match d with
  | some d => fun t => if t = d then v else env t
  | none => env

/-- What is told of a block: its first cells (and its size, and whether it may be written), or a whole object. -/
inductive Blk where
  | cells (own : Bool) (xs : List Value) (tot : Nat)
  | obj (o : Obj)
def Blk.own : Blk → Bool
  | .cells o _ _ => o
  | .obj _ => true
/-- What is told of memory. -/
abbrev Mem := Nat → Option Blk
def Mem.put (M : Mem) (b : Nat) (B : Blk) : Mem := fun i => if i = b then some B else M i
def Mem.del (M : Mem) (b : Nat) : Mem := fun i => if i = b then none else M i
def Blk.holds (w : World) (b : Nat) : Blk → Prop
  | .cells own xs tot => ∃ c e fr, w.heap[b]? = some (.cells c e fr) ∧ c.size = tot ∧ (∃ ys, c.toList = xs ++ ys) ∧
      (own = true → fr.1 = fr.2 ∨ tot ≤ fr.1)
  | .obj o => w.heap[b]? = some o ∧ ∀ c e fr, o ≠ .cells c e fr
def Rep (M : Mem) (w : World) : Prop := ∀ b B, M b = some B → B.holds w b
def owns (M : Mem) (b : Nat) : Prop := ∃ B, M b = some B ∧ B.own = true
/-- From (M, w) to (M', w'): nothing but own blocks is written. -/
structure Ext (M : Mem) (w : World) (M' : Mem) (w' : World) : Prop where
  os : w'.os = w.os
  tape : w'.tape = w.tape
  output : w'.output = w.output
  size : w.heap.size ≤ w'.heap.size
  block : ∀ b, b < w.heap.size → ¬ owns M b → w'.heap[b]? = w.heap[b]?
  own : ∀ b, owns M' b → owns M b ∨ w.heap.size ≤ b
theorem Ext.refl (M : Mem) (w : World) : Ext M w M w := ⟨rfl, rfl, rfl, Nat.le_refl _, fun _ _ _ => rfl, fun _ h => .inl h⟩
theorem Ext.trans {M M' M'' : Mem} {w w' w'' : World} (h : Ext M w M' w') (k : Ext M' w' M'' w'') : Ext M w M'' w'' :=
  ⟨k.os.trans h.os, k.tape.trans h.tape, k.output.trans h.output, Nat.le_trans h.size k.size,
   fun b hb ho => (k.block b (Nat.lt_of_lt_of_le hb h.size) (fun ho' => (h.own b ho').elim ho (fun h' => absurd hb (Nat.not_lt.2 h')))).trans (h.block b hb ho),
   fun b hb => (k.own b hb).elim (fun h' => h.own b h') (fun h' => .inr (Nat.le_trans h.size h'))⟩
/-- A part of what is told. -/
def Sub (M N : Mem) : Prop := ∀ b B, M b = some B → N b = some B
theorem Sub.refl (M : Mem) : Sub M M := fun _ _ h => h
theorem Sub.trans {A B C : Mem} (h : Sub A B) (k : Sub B C) : Sub A C := fun b x hx => k b x (h b x hx)
theorem Sub.put {M N : Mem} (h : Sub M N) {b : Nat} (hb : M b = none) (B : Blk) : Sub M (N.put b B) := by
  intro i x hx
  unfold Mem.put
  split
  · rename_i e; subst e; rw [hb] at hx; cases hx
  · exact h i x hx
theorem Sub.both {M N : Mem} (h : Sub M N) (b : Nat) (B : Blk) : Sub (M.put b B) (N.put b B) := by
  intro i x hx
  unfold Mem.put at *
  split at hx
  · rename_i e; rw [if_pos e]; exact hx
  · rename_i e; rw [if_neg e]; exact h i x hx
theorem Rep.sub {M N : Mem} {w : World} (h : Rep N w) (hs : Sub M N) : Rep M w := fun b B hb => h b B (hs b B hb)
theorem owns_sub {M N : Mem} (hs : Sub M N) {b : Nat} (h : owns M b) : owns N b := let ⟨B, h1, h2⟩ := h; ⟨B, hs b B h1, h2⟩
theorem Ext.sub {M M' N : Mem} {w w' : World} (h : Ext M w N w') (hs : Sub M' N) : Ext M w M' w' :=
  ⟨h.os, h.tape, h.output, h.size, h.block, fun b hb => h.own b (owns_sub hs hb)⟩

/-- A function of the program with a body. -/
def HasBody (P : Program) (f : FuncId) : Prop := ∃ fn, P.funcs[f]? = some fn ∧ (fn.name == "runtime.NumGoroutine") = false ∧ fn.body.isNone = false
/-- A call: from memory as told by M it returns a value v and leaves memory as told by M', R being true of them. -/
def Does (P : Program) (f : FuncId) (args : List Value) (M : Mem) (R : Value → Mem → Prop) : Prop :=
  HasBody P f ∧ ∀ w, Rep M w → Calls P f args.toArray w fun e w' => ∃ v M', e = .returned v ∧ Rep M' w' ∧ Ext M w M' w' ∧ R v M'
theorem Does.mono {P : Program} {f : FuncId} {args : List Value} {M : Mem} {R R' : Value → Mem → Prop} (h : Does P f args M R) (hr : ∀ v M', R v M' → R' v M') : Does P f args M R' :=
  ⟨h.1, fun w hw => (h.2 w hw).mono fun _ _ ⟨v, M', h1, h2, h3, h4⟩ => ⟨v, M', h1, h2, h3, hr v M' h4⟩⟩
/-- What is more than a call needs stays as it is. -/
theorem Does.weaken {P : Program} {f : FuncId} {args : List Value} {M N : Mem} {R : Value → Mem → Prop} (h : Does P f args M R) (hs : Sub M N) : Does P f args N R :=
  ⟨h.1, fun w hw => (h.2 w (hw.sub hs)).mono fun _ _ ⟨v, M', h1, h2, h3, h4⟩ => ⟨v, M', h1, h2,
    ⟨h3.os, h3.tape, h3.output, h3.size, fun b hb ho => h3.block b hb (fun h' => ho (owns_sub hs h')), fun b hb => (h3.own b hb).imp (owns_sub hs) id⟩, h4⟩⟩

/-- An act fits an environment. -/
structure Fits (n : Nat) (env : Env) (a : Act) : Prop where
  defers : a.defers = []
  size : a.tmps.size = n
  ev : a.eval = ev env
theorem Fits.put {n : Nat} {env : Env} {a : Act} (h : Fits n env a) {d : Option Tmp} (hd : ∀ t, d = some t → t < n) (v : Value) : Fits n (put env d v) (a.put d v) := by
  cases d with
  | none => exact h
  | some d =>
    have hd' := hd d rfl
    refine ⟨h.defers, by simp [Act.put, h.size], ?_⟩
    have he := h.ev
    funext x
    cases x with
    | tmp t =>
      have h1 := congrFun he (.tmp t)
      simp only [Act.eval, Proofs.Ytbefijbmgmbphaa.ev] at h1
      simp only [Act.put, Act.eval, Proofs.Ytbefijbmgmbphaa.ev, Proofs.Ytbefijbmgmbphaa.put]
      by_cases e : t = d
      · subst e
        rw [if_pos rfl]
        simp [h.size, hd']
      · rw [if_neg e, ← h1]
        simp only [Array.getD_eq_getD_getElem?]
        rw [Array.getElem?_setIfInBounds_ne (Ne.symm e)]
    | const v => rfl
    | global g => rfl
    | func f => rfl
/-- What holds at a way out, in the calculus' words. -/
def Way (n : Nat) (M0 : Mem) (w0 : World) (Q : Exit → Env → Mem → Prop) : Exit → Act → World → Prop :=
  fun e a w => ∃ env M, Fits n env a ∧ Rep M w ∧ Ext M0 w0 M w ∧ Q e env M
/-- A piece of code. -/
def CodeTo (P : Program) (n : Nat) (c : Code) (Q : Exit → Env → Mem → Prop) (env : Env) (M : Mem) : Prop :=
  ∀ M0 w0 a w, Fits n env a → Rep M w → Ext M0 w0 M w → c.wp P (Way n M0 w0 Q) a w
/-- One operation: its value, and memory behind it. -/
def OpTo (P : Program) (o : Op) (env : Env) (M : Mem) (K : Value → Mem → Prop) : Prop :=
  ∀ (o' : Oper) (a : Act) (w : World) (next : Act → World → Prop) (Q : Exit → Act → World → Prop), o'.op = o → a.eval = ev env → Rep M w →
    (∀ v M' w', Rep M' w' → Ext M w M' w' → K v M' → next (a.put o'.dst v) w') → o'.upon P a next Q ((execOp a.eval o').run P w)

section
variable {P : Program} {n : Nat} {Q : Exit → Env → Mem → Prop} {env : Env} {M : Mem}
theorem CodeTo.mono {c : Code} {Q' : Exit → Env → Mem → Prop} (h : CodeTo P n c Q env M) (hq : ∀ e env M, Q e env M → Q' e env M) : CodeTo P n c Q' env M :=
  fun M0 w0 a w h1 h2 h3 => wp_mono (h M0 w0 a w h1 h2 h3) fun _ _ _ ⟨e', m', a1, a2, a3, a4⟩ => ⟨e', m', a1, a2, a3, hq _ _ _ a4⟩
theorem codeTo_skip (h : Q .normal env M) : CodeTo P n .skip Q env M := fun _ _ _ _ h1 h2 h3 => wp_skip ⟨_, _, h1, h2, h3, h⟩
theorem codeTo_ret (h : Q .ret env M) : CodeTo P n .ret Q env M := fun _ _ _ _ h1 h2 h3 => wp_ret ⟨_, _, h1, h2, h3, h⟩
theorem codeTo_exit {id : Nat} (h : Q (.exit id) env M) : CodeTo P n (.exit id) Q env M := fun _ _ _ _ h1 h2 h3 => wp_exit ⟨_, _, h1, h2, h3, h⟩
def thenQ (A : Env → Mem → Prop) (Q : Exit → Env → Mem → Prop) : Exit → Env → Mem → Prop
  | .normal, env, M => A env M
  | e, env, M => Q e env M
theorem codeTo_seq {x y : Code} (h : CodeTo P n x (thenQ (CodeTo P n y Q) Q) env M) : CodeTo P n (.seq x y) Q env M := by
  intro M0 w0 a w h1 h2 h3
  refine wp_seq (wp_mono (h M0 w0 a w h1 h2 h3) ?_)
  rintro e a' w' ⟨env', M', a1, a2, a3, a4⟩
  cases e with
  | normal => exact a4 M0 w0 a' w' a1 a2 a3
  | exit id => exact ⟨_, _, a1, a2, a3, a4⟩
  | goto id => exact ⟨_, _, a1, a2, a3, a4⟩
  | ret => exact ⟨_, _, a1, a2, a3, a4⟩
  | panic c => exact ⟨_, _, a1, a2, a3, a4⟩
  | outgrown => exact ⟨_, _, a1, a2, a3, a4⟩
theorem codeTo_cond {c : Operand} {x y : Code} {t : Bool} (hc : ev env c = .bool t) (ht : t = true → CodeTo P n x Q env M) (hf : t = false → CodeTo P n y Q env M) : CodeTo P n (.cond c x y) Q env M := by
  intro M0 w0 a w h1 h2 h3
  exact wp_cond_split (by rw [h1.ev]; exact hc) (fun e => ht e M0 w0 a w h1 h2 h3) (fun e => hf e M0 w0 a w h1 h2 h3)
def inBlk (id : Nat) (Q : Exit → Env → Mem → Prop) : Exit → Env → Mem → Prop
  | .exit id', env, M => if id' = id then Q .normal env M else Q (.exit id') env M
  | e, env, M => Q e env M
theorem codeTo_block {id : Nat} {c : Code} (h : CodeTo P n c (inBlk id Q) env M) : CodeTo P n (.block id c) Q env M := by
  intro M0 w0 a w h1 h2 h3
  refine wp_block (wp_mono (h M0 w0 a w h1 h2 h3) ?_)
  rintro e a' w' ⟨env', M', a1, a2, a3, a4⟩
  cases e with
  | normal => exact ⟨_, _, a1, a2, a3, a4⟩
  | exit id' =>
    simp only [inBlk] at a4
    simp only [Exit.inBlock]
    split
    · rename_i e; rw [if_pos e] at a4; exact ⟨_, _, a1, a2, a3, a4⟩
    · rename_i e; rw [if_neg e] at a4; exact ⟨_, _, a1, a2, a3, a4⟩
  | goto id => exact ⟨_, _, a1, a2, a3, a4⟩
  | ret => exact ⟨_, _, a1, a2, a3, a4⟩
  | panic c => exact ⟨_, _, a1, a2, a3, a4⟩
  | outgrown => exact ⟨_, _, a1, a2, a3, a4⟩
/-- A loop: a relation that bears a number, which each round lowers. -/
theorem codeTo_loop {body : Code} (I : Nat → Env → Mem → Prop) (k : Nat) (h0 : I k env M)
    (round : ∀ k env M, I k env M → CodeTo P n body (thenQ (fun env' M' => ∃ k' M1, Sub M1 M' ∧ k' < k ∧ I k' env' M1) Q) env M) : CodeTo P n (.loop body) Q env M := by
  intro M0 w0 a w h1 h2 h3
  refine wp_loop_ghost (fun k a w => Way n M0 w0 (fun _ env M => I k env M) .normal a w) k ⟨_, _, h1, h2, h3, h0⟩ ?_
  rintro k a w ⟨env', M', a1, a2, a3, a4⟩
  refine wp_mono (round k env' M' a4 M0 w0 a w a1 a2 a3) ?_
  rintro e a' w' ⟨env'', M'', b1, b2, b3, b4⟩
  cases e with
  | normal => obtain ⟨k', M1, hs, hk, hi⟩ := b4; exact ⟨k', hk, _, _, b1, b2.sub hs, b3.sub hs, hi⟩
  | exit id => exact ⟨_, _, b1, b2, b3, b4⟩
  | goto id => exact ⟨_, _, b1, b2, b3, b4⟩
  | ret => exact ⟨_, _, b1, b2, b3, b4⟩
  | panic c => exact ⟨_, _, b1, b2, b3, b4⟩
  | outgrown => exact ⟨_, _, b1, b2, b3, b4⟩

/-- What an operation of a region told it, as the guards read it. -/
def yE (ops : List Oper) (env : Env) (j : Nat) : Option Bool :=
  match (ops[j]?).bind (·.dst) with
  | some d => match env d with
    | .bool b => some b
    | _ => none
  | none => none
theorem yielded_fits {a : Act} (h : Fits n env a) (ops : Array Oper) (j : Nat) : yielded ops a.tmps j = yE ops.toList env j := by
  unfold yielded yE
  rw [Array.getElem?_toList]
  cases hd : (ops[j]?).bind (·.dst) with
  | none => rfl
  | some d =>
    have h1 := congrFun h.ev (.tmp d)
    simp only [Act.eval, Proofs.Ytbefijbmgmbphaa.ev, Array.getD_eq_getD_getElem?] at h1
    simp only [Option.bind_some]
    cases he : a.tmps[d]? with
    | none => rw [he] at h1; simp only [Option.getD_none] at h1; rw [← h1]; rfl
    | some v => rw [he] at h1; simp only [Option.getD_some] at h1; rw [← h1]; cases v <;> rfl
/-- The operations of a region, in their order. -/
def OpsTo (P : Program) (n : Nat) (ops : List Oper) (Q : Exit → Env → Mem → Prop) (l : List Oper) (env : Env) (M : Mem) : Prop :=
  ∀ M0 w0 a w, Fits n env a → Rep M w → Ext M0 w0 M w → wpList P ops.toArray (Way n M0 w0 Q) l a w
theorem opsTo_nil {ops : List Oper} (h : Q .normal env M) : OpsTo P n ops Q [] env M := fun _ _ _ _ h1 h2 h3 => ⟨_, _, h1, h2, h3, h⟩
theorem opsTo_plain {ops : List Oper} {o : Oper} {rest : List Oper} (hg : o.guard = none) (hd : ∀ t, o.dst = some t → t < n) (h : OpTo P o.op env M fun v M' => OpsTo P n ops Q rest (put env o.dst v) M') :
    OpsTo P n ops Q (o :: rest) env M := by
  intro M0 w0 a w h1 h2 h3
  unfold wpList
  rw [if_pos (by simp [Region.wanted, hg])]
  exact .inl (h o a w _ _ rfl h1.ev h2 fun v M' w' a1 a2 a3 => a3 M0 w0 _ _ (h1.put hd v) a1 (h3.trans a2))
theorem opsTo_taken {ops : List Oper} {o : Oper} {rest : List Oper} {j : Nat} {b : Bool} (hg : o.guard = some (j, b)) (hy : yE ops env j = some b) (hd : ∀ t, o.dst = some t → t < n)
    (h : OpTo P o.op env M fun v M' => OpsTo P n ops Q rest (put env o.dst v) M') : OpsTo P n ops Q (o :: rest) env M := by
  intro M0 w0 a w h1 h2 h3
  unfold wpList
  rw [if_pos (by simp [Region.wanted, hg, yielded_fits h1, hy])]
  exact .inl (h o a w _ _ rfl h1.ev h2 fun v M' w' a1 a2 a3 => a3 M0 w0 _ _ (h1.put hd v) a1 (h3.trans a2))
theorem opsTo_passed {ops : List Oper} {o : Oper} {rest : List Oper} {j : Nat} {b : Bool} (hg : o.guard = some (j, b)) (hy : yE ops env j ≠ some b) (hd : ∀ t, o.dst = some t → t < n)
    (h : OpsTo P n ops Q rest (put env o.dst undef) M) : OpsTo P n ops Q (o :: rest) env M := by
  intro M0 w0 a w h1 h2 h3
  unfold wpList
  rw [if_neg (by simp [Region.wanted, hg, yielded_fits h1, hy])]
  exact h M0 w0 _ _ (h1.put hd undef) h2 h3
theorem codeTo_region {id : Nat} {ops : Array Oper} (h : OpsTo P n ops.toList Q ops.toList env M) : CodeTo P n (.region id ops false) Q env M :=
  fun M0 w0 a w h1 h2 h3 => wp_region_list (by have := h M0 w0 a w h1 h2 h3; simpa using this)
end
section
variable {P : Program} {o : Op} {env : Env} {M : Mem} {K : Value → Mem → Prop}
theorem OpTo.mono {K' : Value → Mem → Prop} (h : OpTo P o env M K) (hk : ∀ v M', K v M' → K' v M') : OpTo P o env M K' :=
  fun o' a w next Q e he hr hn => h o' a w next Q e he hr fun v M' w' a1 a2 a3 => hn v M' w' a1 a2 (hk v M' a3)
/-- An operation that leaves a value. -/
theorem opTo_value (h : ∀ w o', Rep M w → o'.op = o → ∃ v w' M', (execOp (ev env) o').run P w = .ok (.value v) w' ∧ Rep M' w' ∧ Ext M w M' w' ∧ K v M') : OpTo P o env M K := by
  intro o' a w next Q e he hr hn
  obtain ⟨v, w', M', h1, h2, h3, h4⟩ := h w o' hr e
  rw [he, h1]
  exact hn v M' w' h2 h3 h4
theorem opTo_skip (h : ∀ w o', Rep M w → o'.op = o → ∃ w' M', (execOp (ev env) o').run P w = .ok .skip w' ∧ Rep M' w' ∧ Ext M w M' w' ∧ K undef M') : OpTo P o env M K := by
  intro o' a w next Q e he hr hn
  obtain ⟨w', M', h1, h2, h3, h4⟩ := h w o' hr e
  rw [he, h1]
  exact hn undef M' w' h2 h3 h4
theorem opTo_pure (v : Value) (h : ∀ w o', o'.op = o → (execOp (ev env) o').run P w = .ok (.value v) w) (hk : K v M) : OpTo P o env M K :=
  opTo_value fun w o' hr e => ⟨v, w, M, h w o' e, hr, Ext.refl _ _, hk⟩
theorem opTo_enter (f : FuncId) (args : List Value) (h : ∀ w o', o'.op = o → (execOp (ev env) o').run P w = .ok (.enter f args.toArray) w) (hk : Does P f args M K) : OpTo P o env M K := by
  intro o' a w next Q e he hr hn
  rw [he, h w o' e]
  exact (hk.2 w hr).mono fun e' w' ⟨v, M', h1, h2, h3, h4⟩ => by rw [h1]; exact hn v M' w' h2 h3 h4
end
/-- The results of a function, as its environment and memory tell them. -/
def Mem.get? (M : Mem) (b i : Nat) : Option Value :=
  match M b with
  | some (.cells _ xs _) => xs[i]?
  | _ => none
theorem Rep.cell {M : Mem} {w : World} (h : Rep M w) {b i : Nat} {v : Value} (hv : M.get? b i = some v) : w.cell? ⟨b, i, none⟩ = some v := by
  unfold Mem.get? at hv
  split at hv
  · rename_i own xs tot hb
    obtain ⟨c, e, fr, h1, h2, ⟨ys, h3⟩, _⟩ := h b _ hb
    have hi : i < xs.length := by
      rcases Nat.lt_or_ge i xs.length with h | h
      · exact h
      · rw [List.getElem?_eq_none h] at hv; cases hv
    simp only [World.cell?, h1, Option.isSome_none, Bool.false_eq_true, if_false]
    rw [← Array.getElem?_toList, h3, List.getElem?_append_left hi, hv]
  · cases hv
end Go.Proofs.Ytbefijbmgmbphaa
