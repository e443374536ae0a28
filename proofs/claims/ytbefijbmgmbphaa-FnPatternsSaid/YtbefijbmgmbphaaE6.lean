/- The calculus, continued: regions that draw their order and only read. -/
import Derived.Test.YtbefijbmgmbphaaE4
import Derived.Deep.Quiet
namespace Go.Proofs.Ytbefijbmgmbphaa
open Go
set_option linter.unusedSimpArgs false

def vQCall (P : Program) (f : Value) (args : List Value) (K : Value → Mem → Prop) (M : Mem) : Prop := ∃ v, vCallV P f args (fun v' M' => v' = v ∧ M' = M) M ∧ K v M
def vQ (P : Program) (T : Tab) (o : Op) (env : Env) (K : Value → Mem → Prop) (M : Mem) : Prop :=
  match o with
  | .move _ | .assign _ | .pick _ _ _ | .load _ _ | .binOp _ _ _ _ _ | .unOp _ _ _ | .slice _ _ _ _ _ | .fieldAddr _ _ _ | .field _ _ _ | .indexAddr _ _ _ | .index _ _ _ | .extract _ _ | .nilCheck _ => vOp P T o env K M
  | .convert a b x => vR (convR T a b (ev env x)) K M
  | .call ⟨.builtin .len, ⟨[x]⟩, ⟨[t]⟩⟩ => vR (lenR T t (ev env x)) K M
  | .call ⟨.builtin .min, args, _⟩ => vR (minR (args.toList.map (ev env))) K M
  | .call ⟨.builtin .max, args, _⟩ => vR (maxR (args.toList.map (ev env))) K M
  | .call ⟨.value f, args, _⟩ => vQCall P (ev env f) (args.toList.map (ev env)) K M
  | _ => False
def gQ (P : Program) (T : Tab) (o : Op) (d : Option Tmp) (rest : Env → Mem → Prop) : Env → Mem → Prop := fun env M => vQ P T o env (Kt rest env d) M
def vQs (P : Program) (T : Tab) (ops : List Oper) (Q : Exit → Env → Mem → Prop) : List Oper → Env → Mem → Prop
  | [], env, M => Q .normal env M
  | o :: rest, env, M => match o.guard with
    | none => vQ P T o.op env (Kt (vQs P T ops Q rest) env o.dst) M
    | some (j, b) => vGd (yE ops env j) b (gQ P T o.op o.dst (vQs P T ops Q rest)) (gB o.dst (vQs P T ops Q rest)) env M
section
variable {P : Program} {T : Tab} {env : Env} {M : Mem} {K : Value → Mem → Prop}
/-- A value in every world that M tells of, that world being left as it was; or a call. -/
def QuietOp (P : Program) (o : Op) (env : Env) (M : Mem) (v : Value) : Prop :=
  ∀ w o', Rep M w → o'.op = o → ((execOp (ev env) o').run P w = .ok (.value v) w ∨ ∃ f args, (execOp (ev env) o').run P w = .ok (.enter f args) w ∧ Calls P f args w fun e w' => e = .returned v ∧ Rep M w' ∧ Ext M w M w')
theorem quiet_out {o : Op} {r : Out} {s : Oper → Sem Value} (hx : ∀ o', o'.op = o → execOp (ev env) o' = (do pure (Next.value (← s o')))) (hi : ∀ o', r.Is P (s o')) (h : vR r K M) : ∃ v, QuietOp P o env M v ∧ K v M := by
  cases r with
  | ok v => exact ⟨v, fun w o' _ e => .inl (by rw [hx o' e, Sem.run_bind, hi o' w]; rfl), h⟩
  | need p v => exact ⟨v, fun w o' _ e => .inl (by rw [hx o' e, Sem.run_bind, hi o' h.1 w]; rfl), h.2⟩
  | no => exact h.elim
theorem vQ_is (hT : TabOk P T) (o : Op) (h : vQ P T o env K M) : ∃ v, QuietOp P o env M v ∧ K v M := by
  unfold vQ at h
  split at h
  case h_1 x => exact ⟨_, fun w o' _ e => .inl (by simp only [execOp, e]; rfl), h⟩
  case h_2 x => exact ⟨_, fun w o' _ e => .inl (by simp only [execOp, e]; rfl), h⟩
  case h_3 c a b => exact quiet_out (s := fun _ => do pure (if ← asBool (ev env c) then ev env a else ev env b)) (fun o' e => by simp only [execOp, e]; simp) (fun _ => pick_is P _ _ _) h
  case h_4 t x =>
    have h' : vLoadD (ev env x) (T t) K M := h
    unfold vLoadD at h'
    split at h'
    · rename_i b o i hx hi
      have hv : ∃ v, (if i.d.agg then (M.sub? b o i.size).map (fun l => Value.agg l.toArray) else M.get? b o) = some v ∧ K v M := by
        by_cases hg : i.d.agg = true
        · rw [if_pos hg] at h' ⊢
          unfold vGets at h'
          cases hl : M.sub? b o i.size with
          | some l => rw [hl] at h'; exact ⟨_, rfl, h'⟩
          | none => rw [hl] at h'; exact h'.elim
        · rw [if_neg hg] at h' ⊢
          unfold vGet at h'
          cases hl : M.get? b o with
          | some l => rw [hl] at h'; exact ⟨_, rfl, h'⟩
          | none => rw [hl] at h'; exact h'.elim
      obtain ⟨v, hv, hk⟩ := hv
      refine ⟨v, fun w o' hw e => .inl ?_, hk⟩
      simp only [execOp, e, hx, Instr.loadAt, Instr.sureAddr, Sem.run_bind, Sem.run_pure, Result.andThen_ok, loadVar_run hT hi hw hv]
    · exact h'.elim
  case h_5 op t x y t' =>
    have h' : vR (binR T op t (ev env x) (ev env y)) K M := h
    have hne : binR T op t (ev env x) (ev env y) ≠ .no := by intro e; rw [e] at h'; exact h'
    refine quiet_out (s := fun _ => do eqGuard op t x y (ev env x) (ev env y); binOp op t (ev env x) (ev env y)) (fun o' e => by simp only [execOp, e]) (fun _ => ?_) h'
    have hb := bin_is P T hT op t (ev env x) (ev env y)
    cases hr : binR T op t (ev env x) (ev env y) with
    | ok v => rw [hr] at hb; exact fun w => by rw [Sem.run_bind, eqGuard_is hne, Result.andThen_ok, hb w]
    | need p v => rw [hr] at hb; exact fun hp w => by rw [Sem.run_bind, eqGuard_is hne, Result.andThen_ok, hb hp w]
    | no => trivial
  case h_6 => exact quiet_out (s := fun _ => _) (fun o' e => by simp only [execOp, e]) (fun _ => un_is P _ _) h
  case h_7 => exact quiet_out (s := fun _ => _) (fun o' e => by simp only [execOp, e]) (fun _ => slice_is P T hT _ _ _ _ _) h
  case h_8 => exact quiet_out (s := fun _ => _) (fun o' e => by simp only [execOp, e]) (fun _ => fieldAddr_is P T hT _ _ _) h
  case h_9 => exact quiet_out (s := fun _ => _) (fun o' e => by simp only [execOp, e]) (fun _ => field_is P T hT _ _ _) h
  case h_10 => exact quiet_out (s := fun _ => _) (fun o' e => by simp only [execOp, e]) (fun _ => idxAddr_is P T hT _ _ _) h
  case h_11 => exact quiet_out (s := fun _ => _) (fun o' e => by simp only [execOp, e]) (fun _ => idx_is P T hT _ _ _) h
  case h_12 => exact quiet_out (s := fun _ => _) (fun o' e => by simp only [execOp, e]) (fun _ => ext_is P _ _) h
  case h_13 x =>
    have h' : vR (nilR (ev env x)) K M := h
    unfold nilR at h'
    split at h'
    all_goals first
      | (rename_i hx; exact ⟨_, fun w o' _ e => .inl (by simp only [execOp, e, hx]; rfl), h'⟩)
      | exact h'.elim
  case h_14 a b x => exact quiet_out (s := fun _ => convert a b (ev env x)) (fun o' e => by simp only [execOp, e]) (fun _ => conv_is P T hT _ _ _) h
  case h_15 x t => exact quiet_out (s := fun o' => Builtin.len_ #[t] o'.type #[ev env x]) (fun o' e => by
    have e2 : Array.map (ev env) ⟨[x]⟩ = #[ev env x] := by simp
    simp only [execOp, e, resolve, invoke, builtin, e2]; rfl) (fun o' => len_is P T hT t o'.type _) h
  case h_16 args ts => exact quiet_out (s := fun o' => Builtin.min_ ts o'.type (args.toList.map (ev env)).toArray) (fun o' e => by
    have e2 : args.map (ev env) = (args.toList.map (ev env)).toArray := by apply Array.ext'; simp
    simp only [execOp, e, resolve, invoke, builtin, e2]; rfl) (fun o' => min_is P ts o'.type _) h
  case h_17 args ts => exact quiet_out (s := fun o' => Builtin.max_ ts o'.type (args.toList.map (ev env)).toArray) (fun o' e => by
    have e2 : args.map (ev env) = (args.toList.map (ev env)).toArray := by apply Array.ext'; simp
    simp only [execOp, e, resolve, invoke, builtin, e2]; rfl) (fun o' => max_is P ts o'.type _) h
  case h_18 f args ts =>
    obtain ⟨v, h, hk⟩ := h
    refine ⟨v, fun w o' hw e => .inr ?_, hk⟩
    unfold vCallV at h
    split at h
    · rename_i g first cap hf
      obtain ⟨fn, h1, h2, h3⟩ := h.1
      refine ⟨g, _, ?_, (h.2 w hw).mono fun e' w' ⟨v', M', k1, k2, k3, k4, k5⟩ => ⟨by rw [k1, k4], k5 ▸ k2, by rw [k5] at k3; exact k3⟩⟩
      simp only [execOp, e, resolve, hf, Deferred.ofValue, Sem.run_bind, Sem.run_pure, Result.andThen_ok, invoke, callFunc, run_program, h1, h2, h3, Bool.false_eq_true, if_false]
      congr 2
      apply Array.ext'
      simp
    · exact h.elim
  case h_19 => exact h.elim
/-- A region that draws its order, none of whose operations writes or makes memory that is told of. -/
theorem draw_to (hT : TabOk P T) {n id : Nat} {l : List Oper} {Q : Exit → Env → Mem → Prop} (hm : P.follows .mixedOrders = true) (hB : Region.lexB .any l.toArray = true) (hd : l.all (dstIn n) = true)
    (h : vQs P T l Q l env M) : CodeTo P n (.region id l.toArray true) Q env M := by
  intro M0 w0 a w h1 h2 h3
  refine wp_region_quiet (C := fun w' => Rep M w' ∧ Ext M0 w0 M w') hm hB ⟨fun b B hB' => Blk.holds_of (w := w) rfl (h2 b B hB'), ⟨h3.os, h3.tape, h3.output, h3.size, h3.block, h3.own⟩⟩ ?_
  have key : ∀ (rest : List Oper) (env : Env) (a : Act), rest.all (dstIn n) = true → Fits n env a → vQs P T l Q rest env M →
      wpQuiet P l.toArray (fun w' => Rep M w' ∧ Ext M0 w0 M w') (fun a' => ∀ w', Rep M w' ∧ Ext M0 w0 M w' → Way n M0 w0 Q .normal a' w') rest a := by
    intro rest
    induction rest with
    | nil => exact fun env a _ hf h w' ⟨k1, k2⟩ => ⟨env, M, hf, k1, k2, h⟩
    | cons o rest ih =>
      intro env a hd hf h
      simp only [List.all_cons, Bool.and_eq_true] at hd
      have hop : vQ P T o.op env (Kt (vQs P T l Q rest) env o.dst) M → o.quiet P a (fun w' => Rep M w' ∧ Ext M0 w0 M w') (wpQuiet P l.toArray (fun w' => Rep M w' ∧ Ext M0 w0 M w') (fun a' => ∀ w', Rep M w' ∧ Ext M0 w0 M w' → Way n M0 w0 Q .normal a' w') rest) := by
        intro hq
        obtain ⟨v, hv, hk⟩ := vQ_is hT o.op hq
        refine ⟨v, fun w' ⟨k1, k2⟩ => ?_, ih _ _ hd.2 (hf.put (dstIn_spec hd.1) v) hk⟩
        unfold Oper.quietAt
        rw [hf.ev]
        rcases hv w' o k1 rfl with hr | ⟨f, args, hr, hc⟩
        · rw [hr]; exact ⟨rfl, rfl⟩
        · rw [hr]; exact ⟨rfl, hc.mono fun e w'' ⟨g1, g2, g3⟩ => ⟨g1, g2, k2.trans g3⟩⟩
      unfold vQs at h
      unfold wpQuiet
      split at h
      · rename_i hg
        rw [if_pos (by simp [Region.wanted, hg])]
        exact hop h
      · rename_i j b hg
        have hy := yielded_fits hf l.toArray j
        by_cases hyb : yE l env j = some b
        · rw [if_pos (by simp [Region.wanted, hg, hy, hyb])]
          exact hop (h.1 hyb)
        · rw [if_neg (by simp [Region.wanted, hg, hy, hyb])]
          exact ih _ _ hd.2 (hf.put (dstIn_spec hd.1) undef) (h.2 hyb)
  exact key l env a hd h1 (by simpa using h)
end
end Go.Proofs.Ytbefijbmgmbphaa
