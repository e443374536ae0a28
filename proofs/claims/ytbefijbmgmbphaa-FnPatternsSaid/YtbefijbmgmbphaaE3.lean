/- The calculus, continued: code as a condition on what is told, and the way into and out of a function. -/
import Derived.Test.YtbefijbmgmbphaaE2
namespace Go.Proofs.Ytbefijbmgmbphaa
open Go
set_option linter.unusedSimpArgs false

/-- A value of a struct's or an array's type, put together. -/
def buildL (fs : Nat → Option (Nat × Nat)) : List Value → List (Nat × Value) → Option (List Value)
  | cells, [] => some cells
  | cells, (i, v) :: rest => match fs i with
    | some (off, sz) => if v.cells.size = sz ∧ off + sz ≤ cells.length then buildL fs (splice cells off v.cells.toList) rest else none
    | none => none
def aggOpt : Option (List Value) → Out
  | some l => .ok (.agg l.toArray)
  | none => .no
def buildD (parts : List (Nat × Value)) (d : Option TI) : Out :=
  match d with
  | some ⟨.strct fs, _, z⟩ => aggOpt (buildL (fun i => (fs[i]?).map fun x => (x.1, x.2.1)) z.cells.toList parts)
  | some ⟨.arr _ sz _, _, z⟩ => aggOpt (buildL (fun i => some (i * sz, sz)) z.cells.toList parts)
  | _ => .no
def buildR (T : Tab) (t : TypeId) (parts : List (Nat × Value)) : Out := buildD parts (T t)
theorem foldl_set : ∀ (vs : List Value) (k off : Nat) (cells : Array Value), off + k + vs.length ≤ cells.size →
    (vs.zipIdx k).foldl (fun (cs : Array Value) (x : Value × Nat) => cs.setIfInBounds (off + x.2) x.1) cells = (splice cells.toList (off + k) vs).toArray
  | [], k, off, cells, h => by simp [splice]
  | v :: vs, k, off, cells, h => by
    rw [List.length_cons] at h
    have ih := foldl_set vs (k + 1) off (cells.setIfInBounds (off + k) v) (by simp; omega)
    rw [List.zipIdx_cons, List.foldl_cons, ih]
    congr 1
    unfold splice
    rw [Array.toList_setIfInBounds, List.set_eq_take_append_cons_drop, if_pos (by simp; omega)]
    have hk : off + k ≤ cells.toList.length := by simp; omega
    have hp : ∀ p (L : List Value), p ≤ L.length → (L.take p ++ v :: L.drop (p + 1)).take (p + 1) = L.take p ++ [v] ∧ (L.take p ++ v :: L.drop (p + 1)).drop (p + 1 + vs.length) = L.drop (p + (vs.length + 1)) := by
      intro p L hL
      constructor
      · rw [List.take_append, List.take_of_length_le (by rw [List.length_take]; omega), List.length_take, Nat.min_eq_left hL, show p + 1 - p = 1 by omega]
        simp
      · rw [List.drop_append, List.drop_eq_nil_of_le (by rw [List.length_take]; omega), List.length_take, Nat.min_eq_left hL, show p + 1 + vs.length - p = vs.length + 1 by omega]
        simp [Nat.add_assoc, Nat.add_comm, Nat.add_left_comm]
    obtain ⟨h1, h2⟩ := hp (off + k) cells.toList hk
    rw [show off + (k + 1) = off + k + 1 by omega, h1, h2]
    simp
theorem fill_buildL (place : Nat → Option (Nat × Nat)) : ∀ (parts : List (Nat × Value)) (cells : Array Value) (l : List Value), buildL place cells.toList parts = some l → Instr.fill place cells parts = some l.toArray
  | [], cells, l, h => by simp only [buildL, Option.some.injEq] at h; subst h; simp [Instr.fill]
  | (i, v) :: rest, cells, l, h => by
    unfold buildL at h
    unfold Instr.fill
    cases hp : place i with
    | none => rw [hp] at h; cases h
    | some x =>
      obtain ⟨off, sz⟩ := x
      rw [hp] at h
      dsimp only at h ⊢
      split at h
      · rename_i hc
        obtain ⟨h1, h2⟩ := hc
        rw [Array.length_toList] at h2
        rw [if_neg (by simp; omega)]
        have hz : (v.cells.zipIdx).foldl (fun (cs : Array Value) (x : Value × Nat) => cs.setIfInBounds (off + x.2) x.1) cells = (splice cells.toList off v.cells.toList).toArray := by
          have := foldl_set v.cells.toList 0 off cells (by simp; omega)
          rw [← Array.foldl_toList, Array.toList_zipIdx]
          simpa using this
        exact (congrArg (fun c => Instr.fill place c rest) hz).trans (fill_buildL place rest _ l h)
      · cases h
section
variable {P : Program} {M : Mem}
theorem build_is (T : Tab) (hT : TabOk P T) (t : TypeId) (parts : Array (Nat × Value)) : (buildR T t parts.toList).Is P (Instr.build t parts) := by
  unfold buildR buildD
  split
  · rename_i fs sz z hi
    obtain ⟨⟨F, h1, h2, h3⟩, I, h4, h5, h6⟩ := hT _ _ hi
    unfold aggOpt
    split
    · rename_i l hl
      intro w
      have hm : ∀ (L : List Field), (∀ f ∈ L, (P.info? f.type).isSome = true) → (L.mapM (fun f => (do pure (f.offset, ← sizeOf f.type) : Sem (Nat × Nat)))).run P w = .ok (L.map fun f => (f.offset, P.cellsOf f.type)) w := by
        intro L
        induction L with
        | nil => intro _; rfl
        | cons f L ih =>
          intro hL
          obtain ⟨J, hJ⟩ := Option.isSome_iff_exists.1 (hL f (by simp))
          simp only [List.mapM_cons, Sem.run_bind, run_size hJ, Result.andThen_ok, Sem.run_pure, ih (fun g hg => hL g (by simp [hg])), List.map_cons]
          simp [Program.cellsOf, hJ]
      have hma : (F.mapM (fun f => (do pure (f.offset, ← sizeOf f.type) : Sem (Nat × Nat)))).run P w = .ok (F.toList.map fun f => (f.offset, P.cellsOf f.type)).toArray w := by
        rw [Array.mapM_eq_mapM_toList]
        simp only [Sem.run_map, hm F.toList (fun f hf => (h3 f hf).1), Result.andThen_ok]
      have hfill := fill_buildL (fun i => ((F.toList.map fun f => (f.offset, P.cellsOf f.type)).toArray)[i]?) parts.toList z.cells l (by
        rw [← hl]
        congr 1
        funext i
        rw [← h2]
        simp only [List.getElem?_toArray, List.getElem?_map, Option.map_map]
        rfl)
      unfold Instr.build
      simp only [Sem.run_bind, run_zero h4 h5, Result.andThen_ok, run_underlying h1, hma, hfill, Sem.run_pure]
    · trivial
  · rename_i n sz g sz' z hi
    obtain ⟨⟨e, h1, ⟨J, h2, h3⟩, _⟩, I, h4, h5, h6⟩ := hT _ _ hi
    unfold aggOpt
    split
    · rename_i l hl
      intro w
      have hfill := fill_buildL (fun i => some (i * sz, sz)) parts.toList z.cells l hl
      unfold Instr.build
      simp only [Sem.run_bind, run_zero h4 h5, Result.andThen_ok, run_underlying h1, run_size h2, h3, hfill, Sem.run_pure]
    · trivial
  · trivial

/-! ### Operations -/
def vConvD (T : Tab) (s d : Option TI) (x : Value) (K : Value → Mem → Prop) (M : Mem) : Prop :=
  match s, d with
  | some ⟨.str, _, _⟩, some ⟨.slc _ _ _ _, _, _⟩ => vS2BD T s d x K M
  | some ⟨.slc _ _ _ _, _, _⟩, some ⟨.str, _, _⟩ => vB2SD T s d x K M
  | _, _ => vR (convD x s d) K M
def vConv (T : Tab) (s d : TypeId) (x : Value) (K : Value → Mem → Prop) (M : Mem) : Prop := vConvD T (T s) (T d) x K M
def vCallV (P : Program) (f : Value) (args : List Value) (K : Value → Mem → Prop) (M : Mem) : Prop :=
  match f with
  | .func (.func g) first cap => Does P g (first.toList ++ args ++ cap.toList) M K
  | _ => False
def vBuiltin (T : Tab) (b : Builtin) (ts : List TypeId) (args : List Value) (K : Value → Mem → Prop) (M : Mem) : Prop :=
  match b, ts, args with
  | .len, [t], [x] => vR (lenR T t x) K M
  | .append, ts, [s, x] => vApp T ts s x K M
  | .min, _, l => vR (minR l) K M
  | .max, _, l => vR (maxR l) K M
  | .clear, [t], [x] => vClr T t x K M
  | _, _, _ => False
def vOp (P : Program) (T : Tab) (o : Op) (env : Env) (K : Value → Mem → Prop) (M : Mem) : Prop :=
  match o with
  | .move x | .assign x => K (ev env x) M
  | .pick c a b => vR (pickR (ev env c) (ev env a) (ev env b)) K M
  | .alloc e => vAlloc T e K M
  | .box _ x => vBox (ev env x) K M
  | .build t ps => vR (buildR T t (ps.toList.map fun p => (p.1, ev env p.2))) K M
  | .buildSlice t n ps => vBuildS T t n (ps.toList.map fun p => (p.1, ev env p.2)) K M
  | .load t x => vLoad T t (ev env x) K M
  | .store t x v => vStore T t (ev env x) (ev env v) K M
  | .nilCheck x => vR (nilR (ev env x)) K M
  | .binOp op t x y _ => vR (binR T op t (ev env x) (ev env y)) K M
  | .unOp op _ x => vR (unR op (ev env x)) K M
  | .convert s d x => vConv T s d (ev env x) K M
  | .makeInterface t x => vR (ifaceR T t (ev env x)) K M
  | .makeFunc fn a b => K (.func fn (a.toList.map (ev env)).toArray (b.toList.map (ev env)).toArray) M
  | .makeSlice t l c => vMake T t (ev env l) (ev env c) K M
  | .slice t x lo hi mx => vR (sliceR T t (ev env x) (lo.map (ev env)) (hi.map (ev env)) (mx.map (ev env))) K M
  | .fieldAddr t x f => vR (fieldAddrR T t (ev env x) f) K M
  | .field t x f => vR (fieldR T t (ev env x) f) K M
  | .indexAddr t x i => vR (idxAddrR T t (ev env x) (ev env i)) K M
  | .index t x i => vR (idxR T t (ev env x) (ev env i)) K M
  | .extract x i => vR (extR (ev env x) i) K M
  | .call ⟨.value f, args, _⟩ => vCallV P (ev env f) (args.toList.map (ev env)) K M
  | .call ⟨.builtin b, args, ts⟩ => vBuiltin T b ts.toList (args.toList.map (ev env)) K M
  | _ => False
end
section
variable {P : Program} {env : Env} {M : Mem} {K : Value → Mem → Prop}
theorem opTo_of {o : Op} (s : Oper → Sem Value) (hx : ∀ o', o'.op = o → execOp (ev env) o' = (do pure (Next.value (← s o')))) (h : ∀ o', SemTo P (s o') M K) : OpTo P o env M K := by
  refine opTo_value fun w o' hr e => ?_
  obtain ⟨v, w', M', h1, h2, h3, h4⟩ := h o' w hr
  exact ⟨v, w', M', by rw [hx o' e, Sem.run_bind, h1]; rfl, h2, h3, h4⟩
theorem semTo_out {r : Out} {s : Sem Value} (hi : r.Is P s) (h : vR r K M) : SemTo P s M K := by
  cases r with
  | ok v => exact semTo_run v (fun w _ => hi w) h
  | need p v => exact semTo_run v (fun w _ => hi h.1 w) h.2
  | no => exact h.elim
theorem eqGuard_is {T : Tab} {op : BinOp} {t : TypeId} {x y : Operand} {a b : Value} (h : binR T op t a b ≠ .no) (w : World) : (eqGuard op t x y a b).run P w = .ok () w := by
  cases op <;> (first | rfl | skip)
  all_goals cases a <;> cases b <;> (first | rfl | (exact absurd rfl h))
theorem vOp_is (T : Tab) (hT : TabOk P T) (o : Op) (h : vOp P T o env K M) : OpTo P o env M K := by
  unfold vOp at h
  split at h
  case h_1 => exact opTo_pure _ (fun w o' e => by simp only [execOp, e]; rfl) h
  case h_2 => exact opTo_pure _ (fun w o' e => by simp only [execOp, e]; rfl) h
  case h_3 c a b => exact opTo_of (fun _ => do pure (if ← asBool (ev env c) then ev env a else ev env b)) (fun o' e => by simp only [execOp, e]; simp) fun _ => semTo_out (pick_is P _ _ _) h
  case h_4 e0 => exact opTo_of (fun _ => Instr.alloc e0 true (.tuple #[])) (fun o' e => by simp only [execOp, e]) fun _ => alloc_is T hT K _ _ h
  case h_5 e0 x => exact opTo_of (fun _ => Instr.box e0 (ev env x)) (fun o' e => by simp only [execOp, e]) fun _ => box_is K _ _ h
  case h_6 t ps => exact opTo_of (fun _ => Instr.build t (ps.map fun p => (p.1, ev env p.2))) (fun o' e => by simp only [execOp, e]) fun _ => semTo_out (build_is T hT t _) (by simpa using h)
  case h_7 t n ps => exact opTo_of (fun _ => Instr.buildSlice t n (ps.map fun p => (p.1, ev env p.2))) (fun o' e => by simp only [execOp, e]) fun _ => buildS_is T hT K t n _ (by simpa using h)
  case h_8 => exact opTo_of (fun _ => _) (fun o' e => by simp only [execOp, e]) fun _ => load_is T hT K _ _ h
  case h_9 t x v =>
    refine opTo_skip fun w o' hr e => ?_
    obtain ⟨_, w', M', h1, h2, h3, h4⟩ := storeVar_is T hT K t (ev env x) (ev env v) h w hr
    exact ⟨w', M', by simp only [execOp, e, Sem.run_bind, h1, Result.andThen_ok, Sem.run_pure], h2, h3, h4⟩
  case h_10 x =>
    unfold nilR at h
    split at h
    all_goals first
      | (rename_i hx; exact opTo_pure _ (fun w o' e => by simp only [execOp, e, hx]; rfl) h)
      | exact h.elim
  case h_11 op t x y t' =>
    have hne : binR T op t (ev env x) (ev env y) ≠ .no := by intro e; rw [e] at h; exact h
    refine opTo_of (fun _ => do eqGuard op t x y (ev env x) (ev env y); binOp op t (ev env x) (ev env y)) (fun o' e => by simp only [execOp, e]) fun _ => ?_
    exact semTo_bind (semTo_run () (fun w _ => eqGuard_is hne w) (semTo_out (bin_is P T hT op t _ _) h))
  case h_12 => exact opTo_of (fun _ => _) (fun o' e => by simp only [execOp, e]) fun _ => semTo_out (un_is P _ _) h
  case h_13 s d x =>
    refine opTo_of (fun _ => convert s d (ev env x)) (fun o' e => by simp only [execOp, e]) fun _ => ?_
    unfold vConv vConvD at h
    split at h
    · exact s2b_is T hT K _ _ _ h
    · exact b2s_is T hT K _ _ _ h
    · exact semTo_out (conv_is P T hT _ _ _) h
  case h_14 => exact opTo_of (fun _ => _) (fun o' e => by simp only [execOp, e]) fun _ => semTo_out (iface_is P T hT _ _) h
  case h_15 fn a b => exact opTo_pure _ (fun w o' e => by simp only [execOp, e]; simp only [Instr.makeFunc, Sem.run_bind, Sem.run_pure, Result.andThen_ok]; congr 3 <;> (apply Array.ext'; simp)) h
  case h_16 => exact opTo_of (fun _ => _) (fun o' e => by simp only [execOp, e]) fun _ => make_is T hT K _ _ _ h
  case h_17 => exact opTo_of (fun _ => _) (fun o' e => by simp only [execOp, e]) fun _ => semTo_out (slice_is P T hT _ _ _ _ _) h
  case h_18 => exact opTo_of (fun _ => _) (fun o' e => by simp only [execOp, e]) fun _ => semTo_out (fieldAddr_is P T hT _ _ _) h
  case h_19 => exact opTo_of (fun _ => _) (fun o' e => by simp only [execOp, e]) fun _ => semTo_out (field_is P T hT _ _ _) h
  case h_20 => exact opTo_of (fun _ => _) (fun o' e => by simp only [execOp, e]) fun _ => semTo_out (idxAddr_is P T hT _ _ _) h
  case h_21 => exact opTo_of (fun _ => _) (fun o' e => by simp only [execOp, e]) fun _ => semTo_out (idx_is P T hT _ _ _) h
  case h_22 => exact opTo_of (fun _ => _) (fun o' e => by simp only [execOp, e]) fun _ => semTo_out (ext_is P _ _) h
  case h_23 f args ts =>
    unfold vCallV at h
    split at h
    · rename_i g first cap hf
      obtain ⟨fn, h1, h2, h3⟩ := h.1
      refine opTo_enter g _ (fun w o' e => ?_) h
      simp only [execOp, e, resolve, hf, Deferred.ofValue, Sem.run_bind, Sem.run_pure, Result.andThen_ok, invoke, callFunc, run_program, h1, h2, h3, Bool.false_eq_true, if_false]
      congr 2
      apply Array.ext'
      simp
    · exact h.elim
  case h_24 b args ts =>
    unfold vBuiltin at h
    split at h
    · rename_i t x ht hx
      have e1 : ts = #[t] := Array.ext' ht
      have e2 : args.map (ev env) = #[x] := Array.ext' (by simpa using hx)
      refine opTo_of (fun o' => Builtin.len_ #[t] o'.type #[x]) (fun o' e => ?_) fun o' => semTo_out (len_is P T hT t o'.type x) h
      simp only [execOp, e, resolve, invoke, builtin, e1, e2]
      rfl
    · rename_i s x hx
      have e2 : args.map (ev env) = #[s, x] := Array.ext' (by simpa using hx)
      refine opTo_of (fun o' => Builtin.append_ ts o'.type #[s, x]) (fun o' e => ?_) fun o' => append_is T hT K ts o'.type s x h
      simp only [execOp, e, resolve, invoke, builtin, e2]
      rfl
    · rename_i l hx
      have e2 : args.map (ev env) = (args.toList.map (ev env)).toArray := by apply Array.ext'; simp
      refine opTo_of (fun o' => Builtin.min_ ts o'.type (args.toList.map (ev env)).toArray) (fun o' e => ?_) fun o' => semTo_out (min_is P ts o'.type _) h
      simp only [execOp, e, resolve, invoke, builtin, e2]
      rfl
    · rename_i l hx
      have e2 : args.map (ev env) = (args.toList.map (ev env)).toArray := by apply Array.ext'; simp
      refine opTo_of (fun o' => Builtin.max_ ts o'.type (args.toList.map (ev env)).toArray) (fun o' e => ?_) fun o' => semTo_out (max_is P ts o'.type _) h
      simp only [execOp, e, resolve, invoke, builtin, e2]
      rfl
    · rename_i t x ht hx
      have e1 : ts = #[t] := Array.ext' ht
      have e2 : args.map (ev env) = #[x] := Array.ext' (by simpa using hx)
      refine opTo_of (fun o' => Builtin.clear_ #[t] o'.type #[x]) (fun o' e => ?_) fun o' => clear_is T hT K t o'.type x h
      simp only [execOp, e, resolve, invoke, builtin, e1, e2]
      rfl
    · exact h.elim
  case h_25 => exact h.elim
end

/-! ### Code -/
/-- What follows an operation. -/
def Kt (rest : Env → Mem → Prop) (env : Env) (d : Option Tmp) : Value → Mem → Prop := fun v M => rest (put env d v) M
/-- An operation behind a guard. -/
def vGd (y : Option Bool) (b : Bool) (A B : Env → Mem → Prop) (env : Env) (M : Mem) : Prop := (y = some b → A env M) ∧ (y ≠ some b → B env M)
def gA (P : Program) (T : Tab) (o : Op) (d : Option Tmp) (rest : Env → Mem → Prop) : Env → Mem → Prop := fun env M => vOp P T o env (Kt rest env d) M
def gB (d : Option Tmp) (rest : Env → Mem → Prop) : Env → Mem → Prop := fun env M => rest (put env d undef) M
def vOps (P : Program) (T : Tab) (ops : List Oper) (Q : Exit → Env → Mem → Prop) : List Oper → Env → Mem → Prop
  | [], env, M => Q .normal env M
  | o :: rest, env, M => match o.guard with
    | none => vOp P T o.op env (Kt (vOps P T ops Q rest) env o.dst) M
    | some (j, b) => vGd (yE ops env j) b (gA P T o.op o.dst (vOps P T ops Q rest)) (gB o.dst (vOps P T ops Q rest)) env M
def dstIn (n : Nat) (o : Oper) : Bool :=
  match o.dst with
  | some d => Nat.blt d n
  | none => true
theorem dstIn_spec {n : Nat} {o : Oper} (h : dstIn n o = true) : ∀ t, o.dst = some t → t < n := by
  intro t ht
  unfold dstIn at h
  rw [ht] at h
  simpa [Nat.blt_eq] using h
theorem vOps_is (P : Program) (T : Tab) (hT : TabOk P T) (n : Nat) (ops : List Oper) (Q : Exit → Env → Mem → Prop) : ∀ (l : List Oper) (env : Env) (M : Mem), l.all (dstIn n) = true → vOps P T ops Q l env M → OpsTo P n ops Q l env M
  | [], env, M, _, h => opsTo_nil h
  | o :: rest, env, M, hd, h => by
    simp only [List.all_cons, Bool.and_eq_true] at hd
    unfold vOps at h
    split at h
    · rename_i hg
      exact opsTo_plain hg (dstIn_spec hd.1) ((vOp_is T hT o.op h).mono fun v M' h' => vOps_is P T hT n ops Q rest _ _ hd.2 h')
    · rename_i j b hg
      by_cases hy : yE ops env j = some b
      · exact opsTo_taken hg hy (dstIn_spec hd.1) ((vOp_is T hT o.op (h.1 hy)).mono fun v M' h' => vOps_is P T hT n ops Q rest _ _ hd.2 h')
      · exact opsTo_passed hg hy (dstIn_spec hd.1) (vOps_is P T hT n ops Q rest _ _ hd.2 (h.2 hy))
/-- Each operation of a piece of code writes to a temporary of the frame; regions are taken in their order. -/
def codeIn (n : Nat) : Code → Bool
  | .region _ ops _ => ops.toList.all (dstIn n)
  | .seq a b => codeIn n a && codeIn n b
  | .cond _ a b => codeIn n a && codeIn n b
  | .block _ c => codeIn n c
  | .loop c => codeIn n c
  | _ => true
def vIf (v : Value) (A B : Env → Mem → Prop) (env : Env) (M : Mem) : Prop :=
  match v with
  | .bool t => (t = true → A env M) ∧ (t = false → B env M)
  | _ => False
def vc (P : Program) (T : Tab) (n : Nat) : Code → (Exit → Env → Mem → Prop) → Env → Mem → Prop
  | .skip, Q, env, M => Q .normal env M
  | .region _ ops false, Q, env, M => vOps P T ops.toList Q ops.toList env M
  | .region id ops true, Q, env, M => CodeTo P n (.region id ops true) Q env M
  | .seq a b, Q, env, M => vc P T n a (thenQ (vc P T n b Q) Q) env M
  | .cond c a b, Q, env, M => vIf (ev env c) (vc P T n a Q) (vc P T n b Q) env M
  | .block id c, Q, env, M => vc P T n c (inBlk id Q) env M
  | .loop c, Q, env, M => CodeTo P n (.loop c) Q env M
  | .ret, Q, env, M => Q .ret env M
  | .exit id, Q, env, M => Q (.exit id) env M
  | _, _, _, _ => False
theorem vc_is (P : Program) (T : Tab) (hT : TabOk P T) (n : Nat) : ∀ (c : Code) (Q : Exit → Env → Mem → Prop) (env : Env) (M : Mem), codeIn n c = true → vc P T n c Q env M → CodeTo P n c Q env M := by
  intro c
  induction c with
  | skip => exact fun Q env M _ h => codeTo_skip h
  | region id ops d =>
    intro Q env M hd h
    cases d with
    | false => exact codeTo_region (vOps_is P T hT n ops.toList Q _ _ _ hd h)
    | true => exact h
  | seq a b iha ihb =>
    intro Q env M hd h
    simp only [codeIn, Bool.and_eq_true] at hd
    refine codeTo_seq ((iha _ _ _ hd.1 h).mono fun e env' M' h' => ?_)
    cases e <;> first | exact ihb _ _ _ hd.2 h' | exact h'
  | cond c a b iha ihb =>
    intro Q env M hd h
    simp only [codeIn, Bool.and_eq_true] at hd
    unfold vc vIf at h
    split at h
    · rename_i t ht
      exact codeTo_cond ht (fun e => iha _ _ _ hd.1 (h.1 e)) (fun e => ihb _ _ _ hd.2 (h.2 e))
    · exact h.elim
  | block id c ih => exact fun Q env M hd h => codeTo_block (ih _ _ _ hd h)
  | loop c ih => exact fun Q env M _ h => h
  | ret => exact fun Q env M _ h => codeTo_ret h
  | exit id => exact fun Q env M _ h => codeTo_exit h
  | _ => exact fun Q env M _ h => h.elim
end Go.Proofs.Ytbefijbmgmbphaa
