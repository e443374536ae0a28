/- The calculus, continued: functions, loops, and the rules by which a condition is worked out. -/
import Derived.Test.YtbefijbmgmbphaaE3
namespace Go.Proofs.Ytbefijbmgmbphaa
open Go
set_option linter.unusedSimpArgs false

/-! ### Functions -/
def env0 (args : List Value) : Env := fun t => args.getD t undef
def resOne (T : Tab) (env : Env) (M : Mem) : ResultVar → Option Value
  | .tmp t => some (env t)
  | .cell a t => match env a, T t with
    | .pointer (some ⟨b, o, none⟩), some i => if i.d.agg then (M.sub? b o i.size).map (fun l => .agg l.toArray) else M.get? b o
    | _, _ => none
def resAll (T : Tab) (env : Env) (M : Mem) : List ResultVar → Option (List Value)
  | [] => some []
  | r :: rs => match resOne T env M r, resAll T env M rs with
    | some v, some vs => some (v :: vs)
    | _, _ => none
def resV : List Value → Value
  | [v] => v
  | vs => .tuple vs.toArray
/-- What is told of memory may be less in the end. -/
def vRet (R : Value → Mem → Prop) (v : Value) (M : Mem) : Prop := ∃ M1, Sub M1 M ∧ R v M1
def vDone (l : Option (List Value)) (R : Value → Mem → Prop) (M : Mem) : Prop :=
  match l with
  | some vs => vRet R (resV vs) M
  | none => False
def doneQ (T : Tab) (rs : List ResultVar) (R : Value → Mem → Prop) : Exit → Env → Mem → Prop
  | .normal, env, M => vDone (resAll T env M rs) R M
  | .ret, env, M => vDone (resAll T env M rs) R M
  | _, _, _ => False
section
variable {P : Program} {T : Tab} {M : Mem}
def resSem (tmps : Array Value) : ResultVar → Sem Value
  | .tmp t => pure (tmps.getD t undef)
  | .cell a t => do loadVar t (← asAddr (tmps.getD a undef))
theorem results_eq (fn : Func) (tmps : Array Value) : results fn tmps = (do let vs ← fn.results.mapM (resSem tmps); pure (if h : vs.size = 1 then vs[0] else .tuple vs)) := by
  unfold results
  congr 1
theorem loadVar_run (hT : TabOk P T) {t : TypeId} {i : TI} (hi : T t = some i) {w : World} (hw : Rep M w) {b o : Nat} {v : Value} (h : (if i.d.agg then (M.sub? b o i.size).map (fun l => Value.agg l.toArray) else M.get? b o) = some v) :
    (loadVar t ⟨b, o, none⟩).run P w = .ok v w := by
  obtain ⟨_, I, h1, h2, h3⟩ := hT _ _ hi
  unfold loadVar
  rw [Sem.run_bind, isAgg_is T hT hi, Result.andThen_ok]
  split at h
  · rename_i hg
    rw [if_pos hg]
    obtain ⟨l, hl, e⟩ := Option.map_eq_some_iff.1 h
    obtain ⟨k1, k2⟩ := hw.sub? hl
    have := run_loadCells_list (P := P) w ⟨b, o, none⟩ l (fun j v hv => by rw [addr_add]; exact k2 j v hv)
    rw [k1] at this
    simp only [Sem.run_bind, run_size h1, h3, Result.andThen_ok, this, Sem.run_pure, e]
  · rename_i hg
    rw [if_neg hg, run_load, hw.cell h]
theorem resAll_is (hT : TabOk P T) {env : Env} {tmps : Array Value} (he : ∀ t, tmps.getD t undef = env t) {w : World} (hw : Rep M w) : ∀ (rs : List ResultVar) (vs : List Value), resAll T env M rs = some vs →
    (rs.mapM (resSem tmps)).run P w = .ok vs w
  | [], vs, h => by simp only [resAll, Option.some.injEq] at h; subst h; rfl
  | r :: rs, vs, h => by
    unfold resAll at h
    split at h
    · rename_i v vs' h1 h2
      injection h with h
      subst h
      have ih := resAll_is hT he hw rs vs' h2
      have hr : (resSem tmps r).run P w = .ok v w := by
        cases r with
        | tmp t => simp only [resOne, Option.some.injEq] at h1; simp only [resSem, he, h1, Sem.run_pure]
        | cell a t =>
          simp only [resOne] at h1
          split at h1
          · rename_i b o i hp hi
            simp only [resSem, he, hp, asAddr, Sem.run_bind, Sem.run_pure, Result.andThen_ok]
            exact loadVar_run hT hi hw h1
          · cases h1
      simp only [List.mapM_cons, Sem.run_bind, hr, Result.andThen_ok, ih, Sem.run_pure]
    · cases h
theorem resV_is (vs : List Value) : (if h : vs.toArray.size = 1 then vs.toArray[0] else .tuple vs.toArray) = resV vs := by
  match vs with
  | [] => rfl
  | [v] => rfl
  | a :: b :: l => rfl
theorem done_is (hT : TabOk P T) {fn : Func} {n : Nat} {env : Env} {R : Value → Mem → Prop} {a : Act} {w : World} (hf : Fits n env a) (hw : Rep M w) (h : vDone (resAll T env M fn.results.toList) R M) :
    ∃ v, (results fn a.tmps).run P w = .ok v w ∧ vRet R v M := by
  unfold vDone at h
  split at h
  · rename_i vs hvs
    refine ⟨resV vs, ?_, h⟩
    have he : ∀ t, a.tmps.getD t undef = env t := fun t => congrFun hf.ev (.tmp t)
    have := resAll_is hT he hw _ vs hvs
    rw [results_eq, Sem.run_bind, Array.mapM_eq_mapM_toList, Sem.run_map, this, Result.andThen_ok, Result.andThen_ok, Sem.run_pure, resV_is]
  · exact h.elim
/-- The way into a function. -/
theorem does_of (hT : TabOk P T) {f : FuncId} {fn : Func} {c : Code} (hf : P.funcs[f]? = some fn) (hb : fn.body = some c) (hn : (fn.name == "runtime.NumGoroutine") = false) (hi : codeIn fn.ntmps c = true)
    {args : List Value} {R : Value → Mem → Prop} (ha : args.length ≤ fn.ntmps) (h : vc P T fn.ntmps c (doneQ T fn.results.toList R) (env0 args) M) : Does P f args M R := by
  refine ⟨⟨fn, hf, hn, by rw [hb]; rfl⟩, fun w hw => ?_⟩
  refine calls_of_wp hf hb ?_
  have hfit : Fits fn.ntmps (env0 args) { tmps := args.toArray ++ Array.replicate (fn.ntmps - args.toArray.size) undef, defers := [] } := by
    refine ⟨rfl, by simp; omega, ?_⟩
    funext x
    cases x with
    | tmp t =>
      simp only [Act.eval, ev, env0, Array.getD_eq_getD_getElem?, List.getD_eq_getElem?_getD]
      rw [Array.getElem?_append]
      split
      · simp
      · rename_i hlt
        rw [List.getElem?_eq_none (by simpa using hlt)]
        simp only [Array.getElem?_replicate]
        split <;> rfl
    | const v => rfl
    | global g => rfl
    | func f => rfl
  refine wp_mono (vc_is P T hT fn.ntmps c _ _ _ hi h M w _ w hfit hw (Ext.refl M w)) ?_
  rintro e a w' ⟨env, M', h1, h2, h3, h4⟩
  cases e with
  | normal =>
    obtain ⟨v, k1, M1, k2, k3⟩ := done_is hT h1 h2 h4
    exact ⟨h1.defers, v, k1, v, M1, rfl, h2.sub k2, h3.sub k2, k3⟩
  | ret =>
    obtain ⟨v, k1, M1, k2, k3⟩ := done_is hT h1 h2 h4
    exact ⟨h1.defers, v, k1, v, M1, rfl, h2.sub k2, h3.sub k2, k3⟩
  | exit id => exact h4.elim
  | goto id => exact h4.elim
  | panic c => exact h4.elim
  | outgrown => exact h4.elim

/-! ### Loops -/
/-- The slots of A are open, all others as they were. -/
def mrg (A : List Nat) (g e : Env) : Env := fun t => if A.contains t then g t else e t
def Keeps (A : List Nat) (e e' : Env) : Prop := ∀ t, A.contains t = false → e' t = e t
def sets (e : Env) : List (Nat × Value) → Env
  | [] => e
  | (d, v) :: l => put (sets e l) (some d) v
def agrees (e : Env) : List (Nat × Value) → Prop
  | [] => True
  | (d, v) :: l => e d = v ∧ agrees e l
theorem sets_agrees (e : Env) : ∀ (l : List (Nat × Value)), agrees e l → sets e l = e
  | [], _ => rfl
  | (d, v) :: l, h => by
    unfold sets
    rw [sets_agrees e l h.2]
    funext t
    simp only [put]
    split
    · rename_i ht; rw [ht, h.1]
    · rfl
theorem mrg_keeps {A : List Nat} {e e' : Env} (h : Keeps A e e') : mrg A e' e = e' := by
  funext t
  unfold mrg
  split
  · rfl
  · rename_i ht; exact (h t (by simpa using ht)).symm
/-- What a round comes to. -/
structure Rnd {X : Type} (A : List Nat) (e : Env) (live : X → List (Nat × Value)) (J : X → Mem → Prop) (μ : X → Nat) (k : Nat) (e' : Env) (M' : Mem) : Prop where
  out : ∃ x' M1, Sub M1 M' ∧ μ x' < k ∧ Keeps A e e' ∧ agrees e' (live x') ∧ J x' M1
theorem Rnd.mk' {X : Type} {A : List Nat} {e : Env} {live : X → List (Nat × Value)} {J : X → Mem → Prop} {μ : X → Nat} {k : Nat} {e' : Env} {M' : Mem} (x' : X) (h1 : μ x' < k) (h2 : Keeps A e e') (h3 : agrees e' (live x')) (h4 : J x' M') :
    Rnd A e live J μ k e' M' := ⟨x', M', Sub.refl _, h1, h2, h3, h4⟩
/-- So too where memory is dropped. -/
theorem Rnd.mk'' {X : Type} {A : List Nat} {e : Env} {live : X → List (Nat × Value)} {J : X → Mem → Prop} {μ : X → Nat} {k : Nat} {e' : Env} {M' : Mem} (M1 : Mem) (x' : X) (hs : Sub M1 M') (h1 : μ x' < k) (h2 : Keeps A e e') (h3 : agrees e' (live x')) (h4 : J x' M1) :
    Rnd A e live J μ k e' M' := ⟨x', M1, hs, h1, h2, h3, h4⟩
/-- A loop: its slots A are open at each round's head, but for those that 'live' tells; J tells memory; μ falls. -/
theorem loop_to (hT : TabOk P T) {n : Nat} {body : Code} {Q : Exit → Env → Mem → Prop} {env : Env} {X : Type} (A : List Nat) (live : X → List (Nat × Value)) (J : X → Mem → Prop) (μ : X → Nat) (x0 : X)
    (hi : codeIn n body = true) (h0 : agrees env (live x0)) (hJ : J x0 M)
    (round : ∀ x M g, J x M → vc P T n body (thenQ (Rnd A env live J μ (μ x)) Q) (sets (mrg A g env) (live x)) M) : CodeTo P n (.loop body) Q env M := by
  refine codeTo_loop (fun k e M => ∃ x, μ x = k ∧ Keeps A env e ∧ agrees e (live x) ∧ J x M) (μ x0) ⟨x0, rfl, fun _ _ => rfl, h0, hJ⟩ ?_
  rintro k e M ⟨x, rfl, h1, h2, h3⟩
  have h := round x M e h3
  rw [mrg_keeps h1, sets_agrees e _ h2] at h
  refine (vc_is P T hT n body _ _ _ hi h).mono ?_
  intro ex e' M' h'
  cases ex with
  | normal => obtain ⟨x', M1, a0, a1, a2, a3, a4⟩ := h'.out; exact ⟨μ x', M1, a0, a1, x', rfl, a2, a3, a4⟩
  | _ => exact h'
end
end Go.Proofs.Ytbefijbmgmbphaa
