/- Merged: E7 E9 E10. -/
import Derived.Test.YthpcojnpiggaiaaGreatEA
import Derived.StillTail
/-! The calculus, continued: regions that draw their order and make memory behind their readings. -/
namespace Go.Proofs.YthpcojnpiggaiaaGreat
open Go
set_option linter.unusedSimpArgs false
set_option linter.unusedVariables false

def keepQ (M0 : Mem) (rest : Env → Mem → Prop) : Env → Mem → Prop := fun env M => Sub M0 M ∧ rest env M
/-- The operations behind the readings, in their order; each keeps what was told at the region's head. -/
def vRs (P : Program) (T : Tab) (M0 : Mem) (Q : Exit → Env → Mem → Prop) : Nat → List Oper → Env → Mem → Prop
  | _, [], env, M => Q .normal env M
  | 0, o :: rest, env, M => vOp P T o.op env (Kt (vRs P T M0 Q 0 rest) env o.dst) M
  | f + 1, o :: rest, env, M => vOp P T o.op env (Kt (keepQ M0 (vRs P T M0 Q f rest)) env o.dst) M
/-- The first n operations are readings. -/
def vLs (P : Program) (T : Tab) (Q : Exit → Env → Mem → Prop) (f : Nat) : Nat → List Oper → Env → Mem → Prop
  | 0, l, env, M => vRs P T M Q f l env M
  | _ + 1, [], _, _ => False
  | n + 1, o :: l, env, M => vQ P T o.op env (Kt (vLs P T Q f n l) env o.dst) M
/-- A place in the order of the proof, as a place in the region. -/
def pl (pm : List Nat) (j : Nat) : Nat := pm.getD j 0
def dstOf (l : List Oper) (j : Nat) : Option Tmp := (l[j]?).bind (·.dst)
def isTmp (t : Tmp) : Operand → Bool
  | .tmp u => u == t
  | _ => false
def readsB (l : List Oper) (i : Nat) (t : Tmp) : Bool := match l[i]? with
  | some o => o.op.operands.toList.any (isTmp t)
  | none => false
def apartB (l : List Oper) (i j : Nat) : Bool := i == j || (match dstOf l i, dstOf l j with
  | some a, some b => a != b
  | _, _ => true)
def orderB (r l : List Oper) (pm : List Nat) (i j : Nat) : Bool := i == j || (match dstOf l j with
  | some t => !readsB l i t || (decide (j < i) && Region.waitsFor .any r.toArray (pl pm i) (pl pm j)) || (decide (i < j) && Region.waitsFor .any r.toArray (pl pm j) (pl pm i))
  | none => true)
def backB (l : List Oper) (i : Nat) : Bool := match l[i]? with
  | some o => o.after.all fun e => !Region.binds .any e || decide (e.on < i)
  | none => true
def sinkB (r : List Oper) (pm : List Nat) (n f j : Nat) : Bool := (List.range (n + f + 1)).any fun i => decide (j < i) && Region.waitsFor .any r.toArray (pl pm i) (pl pm j)
def placeB (r : List Oper) (pm : List Nat) : Bool := pm.length == r.length && (pm.all (fun i => decide (i < r.length)) && ((List.range r.length).all (fun i => (List.range r.length).all fun j => i == j || pl pm i != pl pm j) && (List.range r.length).all fun i => (List.range r.length).any fun q => pl pm q == i))
/-- The operations in the order of the proof. -/
def pickL (r : List Oper) : List Nat → List Oper
  | [] => []
  | i :: pm => match r[i]? with
    | some o => o :: pickL r pm
    | none => pickL r pm
def consP : Option Oper → List Oper → List Oper
  | some o, l => o :: l
  | none, l => l
def okB (r : List Oper) (pm : List Nat) (l : List Oper) (n f : Nat) : Bool :=
  placeB r pm && (((List.range n).all fun j => sinkB r pm n f j) && (decide (n + f < l.length) && (
  r.all (fun o => o.guard.isNone) && (Region.noSelect r.toArray && (decide (n ≤ l.length) && (((List.range l.length).all fun i => (List.range l.length).all fun j => apartB l i j && orderB r l pm i j) &&
    (((List.range l.length).all fun i => decide (i ≤ n) || Region.waitsFor .any r.toArray (pl pm i) (pl pm (i - 1))) && ((List.range r.length).all fun i => backB r i))))))))
section
variable {P : Program} {T : Tab} {env : Env} {M : Mem} {Q : Exit → Env → Mem → Prop}
theorem lights_is (hT : TabOk P T) (f : Nat) : ∀ (n : Nat) (l : List Oper) (env : Env), vLs P T Q f n l env M → ∃ (vals : Nat → Value) (c : Nat → Env), c 0 = env ∧
    (∀ i, i < n → ∃ o, l[i]? = some o ∧ QuietOp P o.op (c i) M (vals i) ∧ c (i + 1) = put (c i) o.dst (vals i)) ∧ vRs P T M Q f (l.drop n) (c n) M
  | 0, l, env, h => ⟨fun _ => undef, fun _ => env, rfl, fun i hi => absurd hi (Nat.not_lt_zero i), h⟩
  | n + 1, [], env, h => h.elim
  | n + 1, o :: l, env, h => by
    obtain ⟨v, hv, hk⟩ := vQ_is hT o.op h
    obtain ⟨vals, c, h0, h1, h2⟩ := lights_is hT f n l _ hk
    refine ⟨fun i => match i with | 0 => v | i + 1 => vals i, fun i => match i with | 0 => env | i + 1 => c i, rfl, ?_, h2⟩
    intro i hi
    match i with
    | 0 => exact ⟨o, rfl, hv, h0⟩
    | i + 1 =>
      obtain ⟨o', k1, k2, k3⟩ := h1 i (by omega)
      exact ⟨o', k1, k2, k3⟩
theorem opTo_mono {o : Op} {K K' : Value → Mem → Prop} (h : OpTo P o env M K) (hk : ∀ v M', K v M' → K' v M') : OpTo P o env M K' :=
  fun o' a w next Q e1 e2 hw hn => h o' a w next Q e1 e2 hw fun v M' w' q1 q2 q3 => hn v M' w' q1 q2 (hk v M' q3)
theorem opTo_at {o : Oper} {nt : Nat} {c e : Env} {a : Act} {w : World} {K : Value → Mem → Prop} (hs : ∀ cs b, o.op ≠ .select cs b) (hd : dstIn nt o = true) (h : OpTo P o.op c M K) (hf : Fits nt e a)
    (hx : ∀ x ∈ o.op.operands, ev c x = ev e x) (hc : ∀ t, nt ≤ t → c t = undef) (hw : Rep M w) (next : Act → World → Prop) (Q : Exit → Act → World → Prop)
    (hn : ∀ v M' w', Rep M' w' → Ext M w M' w' → K v M' → next (a.put o.dst v) w') : o.upon P a next Q ((execOp a.eval o).run P w) := by
  obtain ⟨a2, ha2, hsz⟩ : ∃ a2 : Act, a2.eval = ev c ∧ a2.tmps.size = nt := by
    refine ⟨{ tmps := Array.ofFn (n := nt) fun i => c i, defers := [] }, ?_, by simp⟩
    funext x
    cases x with
    | tmp t =>
      simp only [Act.eval, ev, Array.getD_eq_getD_getElem?]
      by_cases ht : t < nt
      · rw [Array.getElem?_eq_getElem (by simpa using ht)]; simp
      · rw [Array.getElem?_eq_none (by simpa using ht), hc t (Nat.le_of_not_lt ht)]; rfl
    | const v => rfl
    | global g => rfl
    | func f => rfl
  have hr : execOp a.eval o = execOp a2.eval o := by
    rw [hf.ev, ha2]
    exact (execOp_congr o hs hx).symm
  rw [hr]
  have key : ∀ v w', (∃ v2, a2.put o.dst v = a2.put o.dst v2 ∧ next (a.put o.dst v2) w') → next (a.put o.dst v) w' := by
    rintro v w' ⟨v2, e1, e2⟩
    cases hdst : o.dst with
    | none => rw [hdst] at e2; exact e2
    | some d =>
      rw [hdst] at e1 e2
      have hlt := dstIn_spec hd d hdst
      have : v = v2 := by
        have := congrArg (fun b : Act => b.tmps[d]?) e1
        simpa [Act.put, hsz, hlt] using this
      rw [this]; exact e2
  have h2 := h o a2 w (fun b w' => ∃ v2, b = a2.put o.dst v2 ∧ next (a.put o.dst v2) w') (fun _ _ _ => False) rfl ha2 hw (fun v M' w' k1 k2 k3 => ⟨v, rfl, hn v M' w' k1 k2 k3⟩)
  generalize (execOp a2.eval o).run P w = r at h2 ⊢
  cases r with
  | ok n w' =>
    cases n <;> simp only [Oper.upon] at h2 ⊢
    case value v => exact key v w' h2
    case skip => exact key _ w' h2
    case enter f args =>
      refine h2.mono fun e w'' he => ?_
      cases e with
      | returned v => exact key v w'' he
      | panicked c => exact he.elim
      | outgrown => obtain ⟨_, _, hh⟩ := he; exact hh.elim
    case row r args => exact Rows.mono h2 fun v w'' he => key v w'' he
    case defer d =>
      obtain ⟨v2, e1, _⟩ := h2
      have := congrArg (fun b : Act => b.defers.length) e1
      cases hdst : o.dst <;> simp [hdst, Act.put] at this
  | halt x w' => cases x <;> simp only [Oper.upon] at h2 ⊢
/-- What is told is kept where a part of it is kept and nothing else is written. -/
theorem rep_frame {M M' : Mem} {w w' : World} (h : Rep M' w) (hs : Sub M M') (h1 : Rep M w') (h2 : Ext M w M w') : Rep M' w' := by
  intro b B hB
  cases hM : M b with
  | some B0 =>
    have := hs _ _ hM
    rw [hB] at this
    injection this with this
    rw [this]
    exact h1 b _ hM
  | none =>
    have hold := h b B hB
    have hlt : b < w.heap.size := by
      rcases Nat.lt_or_ge b w.heap.size with hlt | hge
      · exact hlt
      · cases B with
        | cells own xs tot => obtain ⟨c, e, fr, q, _⟩ := hold; rw [Array.getElem?_eq_none hge] at q; cases q
        | obj o => obtain ⟨q, _⟩ := hold; rw [Array.getElem?_eq_none hge] at q; cases q
    have heq := h2.block b hlt (fun ⟨B1, q, _⟩ => by rw [hM] at q; cases q)
    exact Blk.holds_of heq hold
theorem pick_get (r : List Oper) : ∀ (pm : List Nat), (∀ i ∈ pm, i < r.length) → (pickL r pm).length = pm.length ∧ ∀ q, q < pm.length → (pickL r pm)[q]? = r[pl pm q]?
  | [], _ => ⟨rfl, fun q hq => absurd hq (Nat.not_lt_zero q)⟩
  | i :: pm, h => by
    have hi := h i (List.mem_cons_self ..)
    obtain ⟨h1, h2⟩ := pick_get r pm fun j hj => h j (List.mem_cons_of_mem _ hj)
    have e : pickL r (i :: pm) = r[i] :: pickL r pm := by
      conv => lhs; unfold pickL
      rw [List.getElem?_eq_getElem hi]
    rw [e]
    refine ⟨by simp [h1], fun q hq => ?_⟩
    cases q with
    | zero => simp [pl, List.getElem?_eq_getElem hi]
    | succ q =>
      have := h2 q (by simpa using hq)
      simpa [pl] using this
theorem okB_spec {r : List Oper} {pm : List Nat} {l : List Oper} {n f : Nat} (hl : l = pickL r pm) (h : okB r pm l n f = true) :
    (l.length = r.length ∧ (∀ q, q < l.length → l[q]? = r[pl pm q]? ∧ pl pm q < r.length) ∧ (∀ i j, i < l.length → j < l.length → pl pm i = pl pm j → i = j) ∧ (∀ i, i < r.length → ∃ q, q < l.length ∧ pl pm q = i)) ∧
    (∀ j, j < n → ∃ i, j < i ∧ i ≤ n + f ∧ Region.waitsFor .any r.toArray (pl pm i) (pl pm j) = true) ∧ n + f < l.length ∧ (∀ o ∈ r, o.guard = none) ∧ Region.noSelect r.toArray = true ∧ n ≤ l.length ∧
    (∀ i j a, i ≠ j → i < l.length → j < l.length → dstOf l i = some a → dstOf l j ≠ some a) ∧
    (∀ i j t, i ≠ j → i < l.length → j < l.length → dstOf l j = some t → readsB l i t = true → (j < i ∧ Region.waitsFor .any r.toArray (pl pm i) (pl pm j) = true) ∨ (i < j ∧ Region.waitsFor .any r.toArray (pl pm j) (pl pm i) = true)) ∧
    (∀ i, i < l.length → n < i → Region.waitsFor .any r.toArray (pl pm i) (pl pm (i - 1)) = true) ∧ (∀ (i : Nat) (o : Oper), r[i]? = some o → ∀ e ∈ o.after, Region.binds .any e = true → e.on < i) := by
  unfold okB placeB at h
  simp only [Bool.and_eq_true, List.all_eq_true, decide_eq_true_eq, List.mem_range, Bool.or_eq_true, beq_iff_eq, bne_iff_ne, List.any_eq_true] at h
  obtain ⟨⟨z1, z2, z3, z4⟩, ha, hb, h1, h2, h3, h4, h5, h6⟩ := h
  obtain ⟨y1, y2⟩ := pick_get r pm z2
  rw [← hl] at y1 y2
  have hlen : l.length = r.length := by rw [y1, z1]
  have hpl : ∀ q, q < l.length → pl pm q < r.length := by
    intro q hq
    have hq' : q < pm.length := by omega
    unfold pl
    rw [List.getD_eq_getElem?_getD, List.getElem?_eq_getElem hq']
    exact z2 _ (List.getElem_mem hq')
  refine ⟨⟨hlen, fun q hq => ⟨y2 q (by omega), hpl q hq⟩, ?_, ?_⟩, ?_, hb, fun o ho => by have := h1 o ho; simpa using this, h2, h3, ?_, ?_, ?_, ?_⟩
  · intro i j hi hj he
    rcases z3 i (by omega) j (by omega) with hh | hh
    · exact hh
    · exact absurd he hh
  · intro i hi
    obtain ⟨q, q1, q2⟩ := z4 i hi
    exact ⟨q, by omega, q2⟩
  · intro j hj
    have := ha j hj
    unfold sinkB at this
    obtain ⟨i, h7, h8⟩ := List.any_eq_true.1 this
    simp only [Bool.and_eq_true, decide_eq_true_eq] at h8
    exact ⟨i, h8.1, by have := List.mem_range.1 h7; omega, h8.2⟩
  · intro i j a hij hi hj ha hb
    have := (h4 i hi j hj).1
    unfold apartB at this
    rw [ha, hb] at this
    simp [hij] at this
  · intro i j t hij hi hj hd hr
    have := (h4 i hi j hj).2
    unfold orderB at this
    rw [hd] at this
    simpa [hij, hr] using this
  · intro i hi hn
    rcases h5 i hi with h | h
    · omega
    · exact h
  · intro i o ho e he hb
    have hi : i < r.length := (List.getElem?_eq_some_iff.1 ho).1
    have := h6 i hi
    unfold backB at this
    rw [ho] at this
    have := Array.all_eq_true'.1 this e he
    simpa [hb] using this
theorem reads_mem {l : List Oper} {i : Nat} {o : Oper} (ho : l[i]? = some o) {t : Tmp} (h : Operand.tmp t ∈ o.op.operands) : readsB l i t = true := by
  unfold readsB
  rw [ho]
  exact List.any_eq_true.2 ⟨_, by simpa using h, by simp [isTmp]⟩
/-- A state of a region of which some operations are done. -/
structure St (P : Program) (T : Tab) (pm : List Nat) (l : List Oper) (n f nt : Nat) (Q : Exit → Env → Mem → Prop) (env : Env) (M : Mem) (vals : Nat → Value) (M0 : Mem) (w0 : World) (listed : Array Bool) (a : Act) (w : World) (k : Nat) (c e : Env) (M' : Mem) : Prop where
  size : listed.size = l.length
  closed : ∀ (j : Nat) (o : Oper), l[j]? = some o → listed.getD (pl pm j) false = true → ∀ x ∈ o.after, Region.binds .any x = true → listed.getD x.on false = true
  rest : ∀ j, n ≤ j → j < l.length → (listed.getD (pl pm j) false = true ↔ j < n + k)
  hk : n + k ≤ l.length
  fits : Fits nt e a
  rep : Rep M' w
  ext : Ext M0 w0 M' w
  sub : k ≤ f → Sub M M'
  light : ∀ j t, j < n → dstOf l j = some t → c t = vals j
  other : ∀ t, (∀ j, j < n + k → dstOf l j ≠ some t) → c t = env t
  ea : ∀ j t, j < n → listed.getD (pl pm j) false = false → dstOf l j = some t → e t = env t
  eb : ∀ t, (∀ j, j < n → listed.getD (pl pm j) false = false → dstOf l j ≠ some t) → e t = c t
  vr : vRs P T M Q (f - k) (l.drop (n + k)) c M'
def left (listed : Array Bool) : Nat := listed.toList.count false
theorem left_set : ∀ (l : List Bool) (i : Nat), l[i]? = some false → (l.set i true).count false + 1 = l.count false
  | [], i, h => by simp at h
  | b :: l, 0, h => by
    injection h with h
    subst h
    simp
  | b :: l, i + 1, h => by
    have ih := left_set l i (by simpa using h)
    rw [List.set_cons_succ, List.count_cons, List.count_cons]
    omega
theorem getD_of {listed : Array Bool} {i : Nat} (h : listed.getD i true = false) : listed.getD i false = false ∧ listed.toList[i]? = some false := by
  rw [Array.getD_eq_getD_getElem?] at *
  rw [Array.getElem?_toList]
  cases hq : listed[i]? with
  | none => rw [hq] at h; simp at h
  | some b => rw [hq] at h; simp at h; subst h; exact ⟨rfl, rfl⟩
theorem getD_set' {listed : Array Bool} {i j : Nat} (hi : i < listed.size) : (listed.setIfInBounds i true).getD j false = if j = i then true else listed.getD j false := by
  rw [Array.getD_eq_getD_getElem?, Array.getD_eq_getD_getElem?]
  by_cases h : j = i
  · subst h; rw [if_pos rfl]; simp [hi]
  · rw [if_neg h, Array.getElem?_setIfInBounds_ne (Ne.symm h)]
theorem put_hit (e : Env) {d : Option Tmp} {t : Tmp} (v : Value) (h : d = some t) : put e d v t = v := by subst h; simp [put]
theorem put_miss (e : Env) {d : Option Tmp} {t : Tmp} (v : Value) (h : d ≠ some t) : put e d v t = e t := by
  cases d with
  | none => rfl
  | some d => simp only [put]; rw [if_neg (fun hh => h (by rw [hh]))]
theorem vRs_end (M0 : Mem) (f : Nat) : vRs P T M0 Q f [] env M = Q .normal env M := by cases f <;> rfl
theorem fin_is {pm : List Nat} {l : List Oper} {n f nt : Nat} {vals : Nat → Value} {M0 : Mem} {w0 : World} {listed : Array Bool} {a : Act} {w : World} {k : Nat} {c e : Env} {M' : Mem} (h : St P T pm l n f nt Q env M vals M0 w0 listed a w k c e M') (all : ∀ j, j < l.length → listed.getD (pl pm j) false = true) : Way nt M0 w0 Q .normal a w := by
  have hk := h.hk
  have hn : n + k = l.length := by
    rcases Nat.lt_or_ge (n + k) l.length with h1 | h1
    · have := (h.rest (n + k) (by omega) h1).1 (all _ h1); omega
    · omega
  have hv := h.vr
  rw [hn, List.drop_length, vRs_end] at hv
  have he : e = c := by
    funext t
    exact h.eb t fun j hj hu _ => by rw [all j (by omega)] at hu; cases hu
  exact ⟨c, M', he ▸ h.fits, h.rep, h.ext, hv⟩
theorem any_is (hT : TabOk P T) {r : List Oper} {pm : List Nat} {l : List Oper} {n f nt : Nat} (hpk : l = pickL r pm) (hok : okB r pm l n f = true) (hd : l.all (dstIn nt) = true) {vals : Nat → Value} {c0 : Nat → Env} (hc0 : c0 0 = env)
    (hl : ∀ i, i < n → ∃ o, l[i]? = some o ∧ QuietOp P o.op (c0 i) M (vals i) ∧ c0 (i + 1) = put (c0 i) o.dst (vals i)) (M0 : Mem) (w0 : World) :
    ∀ (fuel : Nat) (listed : Array Bool) (a : Act) (w : World) (k : Nat) (c e : Env) (M' : Mem), left listed = fuel → St P T pm l n f nt Q env M vals M0 w0 listed a w k c e M' → wpAny P .any r.toArray (Way nt M0 w0 Q) fuel listed a w := by
  obtain ⟨⟨gl, gp, gi, gs⟩, ga, gb, g1, g2, g3, g4, g5, g6, g7⟩ := okB_spec hpk hok
  have uniq : ∀ i j t, i < l.length → j < l.length → dstOf l i = some t → dstOf l j = some t → i = j := by
    intro i j t hi hj h1 h2
    by_cases h : i = j
    · exact h
    · exact absurd h2 (g4 i j t h hi hj h1)
  have dlt : ∀ j t, dstOf l j = some t → j < l.length := by
    intro j t h
    rcases Nat.lt_or_ge j l.length with h1 | h1
    · exact h1
    · unfold dstOf at h; rw [List.getElem?_eq_none h1] at h; cases h
  have dof : ∀ (i : Nat) (o : Oper), l[i]? = some o → dstOf l i = o.dst := by intro i o h; unfold dstOf; rw [h]; rfl
  have p1 : ∀ i, i ≤ n → ∀ j t, j < i → dstOf l j = some t → c0 i t = vals j := by
    intro i
    induction i with
    | zero => intro _ j t hj; omega
    | succ i ih =>
      intro hi j t hj hjt
      obtain ⟨o, k1, _, k3⟩ := hl i (by omega)
      rw [k3]
      by_cases hij : j = i
      · subst hij; exact put_hit _ _ (by rw [← dof _ _ k1]; exact hjt)
      · rw [put_miss _ _ (by rw [← dof _ _ k1]; exact fun hh => hij (uniq _ _ t (by omega) (by omega) hjt hh))]
        exact ih (by omega) j t (by omega) hjt
  have p2 : ∀ i, i ≤ n → ∀ t, (∀ j, j < i → dstOf l j ≠ some t) → c0 i t = env t := by
    intro i
    induction i with
    | zero => intro _ t _; rw [hc0]
    | succ i ih =>
      intro hi t ht
      obtain ⟨o, k1, _, k3⟩ := hl i (by omega)
      rw [k3, put_miss _ _ (by rw [← dof _ _ k1]; exact ht i (by omega))]
      exact ih (by omega) t fun j hj => ht j (by omega)
  have waits : ∀ (i j : Nat) (o : Oper), l[i]? = some o → Region.waitsFor .any r.toArray (pl pm i) (pl pm j) = true → ∃ x ∈ o.after, Region.binds .any x = true ∧ x.on = pl pm j := by
    intro i j o ho h
    obtain ⟨oj, h1, x, h2, h3, h4⟩ := Region.waitsFor_spec h
    have hi : i < l.length := (List.getElem?_eq_some_iff.1 ho).1
    rw [List.getElem?_toArray, ← (gp i hi).1, ho] at h1
    injection h1 with h1
    subst h1
    exact ⟨x, h2, h3, h4⟩
  intro fuel
  induction fuel with
  | zero =>
    intro listed a w k c e M' hf h
    have allO : ∀ j, j < r.length → listed.getD j false = true := by
      intro j hj
      have h0 : listed.toList.count false = 0 := hf
      rw [List.count_eq_zero] at h0
      have hsz := h.size
      rw [Array.getD_eq_getD_getElem?, Array.getElem?_eq_getElem (by omega)]
      simp only [Option.getD_some]
      cases hb : listed[j] with
      | true => rfl
      | false => exact absurd (by rw [← hb]; exact Array.mem_toList_iff.2 (Array.getElem_mem _)) h0
    have all : ∀ j, j < l.length → listed.getD (pl pm j) false = true := fun j hj => allO _ (gp j hj).2
    have hready : Region.ready .any r.toArray listed = [] := by
      rw [List.eq_nil_iff_forall_not_mem]
      intro i hi
      obtain ⟨h1, o, h2, _⟩ := mem_ready.1 hi
      have := allO i (by rw [List.getElem?_toArray] at h2; exact (List.getElem?_eq_some_iff.1 h2).1)
      rw [(getD_of h1).1] at this
      cases this
    exact ⟨hready, fin_is h all⟩
  | succ fuel ih =>
    intro listed a w k c e M' hf h
    refine ⟨fun hr => ?_, fun i hi => ?_⟩
    · have allO : ∀ j, j < r.length → listed.getD j false = true := by
        intro j
        induction j using Nat.strongRecOn with
        | _ j ihj =>
          intro hj
          cases hb : listed.getD j false with
          | true => rfl
          | false =>
            exfalso
            have hsz := h.size
            have : j ∈ Region.ready .any r.toArray listed := by
              refine mem_ready.2 ⟨?_, r[j], by simp [hj], ?_⟩
              · rw [Array.getD_eq_getD_getElem?, Array.getElem?_eq_getElem (by omega)] at hb ⊢
                exact hb
              · intro x hx hbx
                have hlt := g7 j r[j] (List.getElem?_eq_getElem hj) x hx hbx
                exact ihj x.on hlt (by omega)
            rw [hr] at this
            cases this
      exact fin_is h fun j hj => allO _ (gp j hj).2
    · obtain ⟨h1, o, h2, h3⟩ := mem_ready.1 hi
      rw [List.getElem?_toArray] at h2
      obtain ⟨i, hil, rfl⟩ := gs _ (List.getElem?_eq_some_iff.1 h2).1
      have h2r := h2
      rw [← (gp i hil).1] at h2
      obtain ⟨hu, hul⟩ := getD_of h1
      have hsz := h.size
      have hguard : o.guard = none := g1 o (List.mem_of_getElem? h2r)
      have hdo := List.all_eq_true.1 hd o (List.mem_of_getElem? h2)
      have hsel : ∀ cs b, o.op ≠ .select cs b := fun cs b => Region.noSelect_spec g2 _ o cs b (by rw [List.getElem?_toArray]; exact h2r)
      have hleft : left (listed.setIfInBounds (pl pm i) true) = fuel := by
        unfold left at *
        rw [Array.toList_setIfInBounds]
        have := left_set listed.toList _ hul
        omega
      have hpi := (gp i hil).2
      have hset0 : ∀ j, (listed.setIfInBounds (pl pm i) true).getD j false = if j = pl pm i then true else listed.getD j false := fun j => getD_set' (by omega)
      have hset : ∀ j, j < l.length → (listed.setIfInBounds (pl pm i) true).getD (pl pm j) false = if j = i then true else listed.getD (pl pm j) false := by
        intro j hj
        rw [hset0]
        by_cases hji : j = i
        · rw [if_pos (by rw [hji]), if_pos hji]
        · rw [if_neg (fun hh => hji (gi j i hj hil hh)), if_neg hji]
      have hclosed : ∀ (j : Nat) (o' : Oper), l[j]? = some o' → (listed.setIfInBounds (pl pm i) true).getD (pl pm j) false = true → ∀ x ∈ o'.after, Region.binds .any x = true → (listed.setIfInBounds (pl pm i) true).getD x.on false = true := by
        intro j o' ho' hj x hx hb
        have hjl : j < l.length := (List.getElem?_eq_some_iff.1 ho').1
        rw [hset j hjl] at hj
        rw [hset0]
        split
        · rfl
        · by_cases hji : j = i
          · subst hji
            rw [h2] at ho'
            injection ho' with ho'
            subst ho'
            exact h3 x hx hb
          · rw [if_neg hji] at hj
            exact h.closed j o' ho' hj x hx hb
      have hdi := dof i o h2
      unfold wpOp
      rw [List.getElem?_toArray, h2r]
      dsimp only
      rw [if_pos (by simp [Region.wanted, hguard])]
      refine Or.inl ?_
      unfold Oper.wp
      by_cases hin : i < n
      · obtain ⟨o', q1, q2, q3⟩ := hl i hin
        rw [h2] at q1
        injection q1 with q1
        subst q1
        have hkf : k ≤ f := by
          rcases Nat.lt_or_ge f k with hfk | hfk
          · exfalso
            have all : ∀ d j, n - j = d → j < n → listed.getD (pl pm j) false = true := by
              intro d
              induction d using Nat.strongRecOn with
              | _ d ihd =>
                intro j hd' hj
                obtain ⟨j', r1, r2, r3⟩ := ga j hj
                have hj'l : j' < l.length := by omega
                have hlj : listed.getD (pl pm j') false = true := by
                  by_cases hjn : j' < n
                  · exact ihd (n - j') (by omega) j' rfl hjn
                  · exact (h.rest j' (by omega) hj'l).2 (by omega)
                obtain ⟨x, k1, k2, k3⟩ := waits j' j l[j'] (List.getElem?_eq_getElem hj'l) r3
                have := h.closed j' l[j'] (List.getElem?_eq_getElem hj'l) hlj x k1 k2
                rw [k3] at this
                exact this
            rw [all (n - i) i rfl hin] at hu
            cases hu
          · exact hfk
        have hsub := h.sub hkf
        have hx : ∀ x ∈ o.op.operands, ev e x = ev (c0 i) x := by
          intro x hx
          cases x with
          | const v => rfl
          | global g => rfl
          | func f => rfl
          | tmp t =>
            simp only [ev]
            by_cases hwr : ∃ j, dstOf l j = some t
            · obtain ⟨j, hj⟩ := hwr
              have hjl := dlt j t hj
              by_cases hji : j = i
              · subst hji
                rw [h.ea j t hin hu hj]
                exact (p2 j (by omega) t fun j' hj' hh => by have := uniq j' j t (by omega) hjl hh hj; omega).symm
              · rcases g5 i j t (Ne.symm hji) hil hjl hj (reads_mem h2 hx) with ⟨hlt, hw⟩ | ⟨hlt, hw⟩
                · obtain ⟨x, k1, k2, k3⟩ := waits i j o h2 hw
                  have hlj := h3 x k1 k2
                  rw [k3] at hlj
                  rw [h.eb t (fun j' hj' hu' hh => by have := uniq j' j t (by omega) hjl hh hj; subst this; rw [hu'] at hlj; cases hlj), h.light j t (by omega) hj]
                  exact (p1 i (by omega) j t hlt hj).symm
                · have hnl : listed.getD (pl pm j) false = false := by
                    cases hb : listed.getD (pl pm j) false with
                    | false => rfl
                    | true =>
                      obtain ⟨x, k1, k2, k3⟩ := waits j i l[j] (List.getElem?_eq_getElem hjl) hw
                      have := h.closed j l[j] (List.getElem?_eq_getElem hjl) hb x k1 k2
                      rw [k3, hu] at this
                      cases this
                  rw [p2 i (by omega) t fun j' hj' hh => by have := uniq j' j t (by omega) hjl hh hj; omega]
                  by_cases hjn : j < n
                  · exact h.ea j t hjn hnl hj
                  · have hjk : ¬ j < n + k := fun hh => by rw [(h.rest j (by omega) hjl).2 hh] at hnl; cases hnl
                    rw [h.eb t (fun j' hj' _ hh => by have := uniq j' j t (by omega) hjl hh hj; omega)]
                    exact h.other t fun j' hj' hh => by have hk := h.hk; have := uniq j' j t (by omega) hjl hh hj; omega
            · have hno : ∀ j, dstOf l j ≠ some t := fun j hh => hwr ⟨j, hh⟩
              rw [h.eb t fun j _ _ => hno j, h.other t fun j _ => hno j, p2 i (by omega) t fun j _ => hno j]
        have hex : execOp a.eval o = execOp (ev (c0 i)) o := by rw [h.fits.ev]; exact execOp_congr o hsel hx
        have hnext : ∀ w', Rep M' w' → Ext M' w M' w' → wpAny P .any r.toArray (Way nt M0 w0 Q) fuel (listed.setIfInBounds (pl pm i) true) (a.put o.dst (vals i)) w' := by
          intro w' hr' he'
          refine ih _ _ _ k c (put e o.dst (vals i)) M' hleft ⟨by simp [hsz], hclosed, ?_, h.hk, h.fits.put (dstIn_spec hdo) _, hr', h.ext.trans he', h.sub, h.light, h.other, ?_, ?_, h.vr⟩
          · intro j hj hjl
            rw [hset _ (by omega), if_neg (by omega)]
            exact h.rest j hj hjl
          · intro j t hj hu' hjt
            rw [hset _ (by omega)] at hu'
            split at hu'
            · cases hu'
            · rename_i hji
              rw [put_miss _ _ (by rw [← hdi]; exact fun hh => hji (uniq j i t (by omega) hil hjt hh))]
              exact h.ea j t hj hu' hjt
          · intro t ht
            by_cases hdt : o.dst = some t
            · rw [put_hit _ _ hdt]
              exact (h.light i t hin (by rw [hdi]; exact hdt)).symm
            · rw [put_miss _ _ hdt]
              refine h.eb t fun j hj hu' hh => ?_
              by_cases hji : j = i
              · subst hji; rw [hdi] at hh; exact hdt hh
              · exact ht j hj (by rw [hset _ (by omega), if_neg hji]; exact hu') hh
        rw [hex]
        rcases q2 w o (h.rep.sub hsub) rfl with hr | ⟨f, args, hr, hcall⟩
        · rw [hr]
          exact hnext w h.rep (Ext.refl _ _)
        · rw [hr]
          refine hcall.mono ?_
          rintro e' w' ⟨rfl, k1, k2⟩
          exact hnext w' (rep_frame h.rep hsub k1 k2) ⟨k2.os, k2.tape, k2.output, k2.size, fun b hb ho => k2.block b hb (fun hh => ho (owns_sub hsub hh)), fun b hb => .inl hb⟩
      · have hik : i = n + k := by
          have hnk : ¬ i < n + k := fun hh => by rw [(h.rest i (by omega) hil).2 hh] at hu; cases hu
          by_cases hgt : n + k < i
          · exfalso
            obtain ⟨x, k1, k2, k3⟩ := waits i (i - 1) o h2 (g6 i hil (by omega))
            have := h3 x k1 k2
            rw [k3] at this
            have := (h.rest (i - 1) (by omega) (by omega)).1 this
            omega
          · omega
        subst hik
        have hvr := h.vr
        rw [List.drop_eq_getElem_cons hil] at hvr
        have ho : l[n + k] = o := by rw [List.getElem?_eq_getElem hil] at h2; injection h2
        rw [ho] at hvr
        have hO : OpTo P o.op c M' (fun v M'' => (k + 1 ≤ f → Sub M M'') ∧ vRs P T M Q (f - (k + 1)) (l.drop (n + k + 1)) (put c o.dst v) M'') := by
          cases hfk : f - k with
          | zero =>
            rw [hfk] at hvr
            exact opTo_mono (vOp_is T hT o.op hvr) fun v M'' hq => ⟨fun hh => by omega, by rw [show f - (k + 1) = 0 by omega]; exact hq⟩
          | succ r =>
            rw [hfk] at hvr
            exact opTo_mono (vOp_is T hT o.op hvr) fun v M'' hq => ⟨fun _ => hq.1, by rw [show f - (k + 1) = r by omega]; exact hq.2⟩
        refine opTo_at (nt := nt) (c := c) (e := e) hsel hdo hO h.fits ?_ ?_ h.rep _ _ ?_
        · intro x hx
          cases x with
          | const v => rfl
          | global g => rfl
          | func f => rfl
          | tmp t =>
            simp only [ev]
            refine (h.eb t fun j hj hu' hh => ?_).symm
            rcases g5 (n + k) j t (by omega) hil (by omega) hh (reads_mem h2 hx) with ⟨hlt, hw⟩ | ⟨hlt, hw⟩
            · obtain ⟨x, k1, k2, k3⟩ := waits (n + k) j o h2 hw
              have := h3 x k1 k2
              rw [k3, hu'] at this
              cases this
            · omega
        · intro t ht
          rw [← h.eb t fun j hj _ hh => by
            have hjl := dlt j t hh
            have := dstIn_spec (List.all_eq_true.1 hd l[j] (List.getElem_mem hjl)) t (by rw [← dof j l[j] (List.getElem?_eq_getElem hjl)]; exact hh)
            exact absurd this (Nat.not_lt.2 ht)]
          have := congrFun h.fits.ev (.tmp t)
          simp only [Act.eval, ev] at this
          rw [← this, Array.getD_eq_getD_getElem?, Array.getElem?_eq_none (by rw [h.fits.size]; exact ht)]
          rfl
        · intro v M'' w' k1 k2 k3
          obtain ⟨k3, k4⟩ := k3
          refine ih _ _ _ (k + 1) (put c o.dst v) (put e o.dst v) M'' hleft ⟨by simp [hsz], hclosed, ?_, by omega, h.fits.put (dstIn_spec hdo) _, k1, h.ext.trans k2, k3, ?_, ?_, ?_, ?_, k4⟩
          · intro j hj hjl
            rw [hset _ (by omega)]
            split
            · simp; omega
            · rename_i hji
              rw [h.rest j hj hjl]
              omega
          · intro j t hj hjt
            rw [put_miss _ _ (by rw [← hdi]; exact fun hh => by have := uniq j (n + k) t (by omega) hil hjt hh; omega)]
            exact h.light j t hj hjt
          · intro t ht
            rw [put_miss _ _ (by rw [← hdi]; exact ht (n + k) (by omega))]
            exact h.other t fun j hj => ht j (by omega)
          · intro j t hj hu' hjt
            rw [put_miss _ _ (by rw [← hdi]; exact fun hh => by have := uniq j (n + k) t (by omega) hil hjt hh; omega)]
            refine h.ea j t hj ?_ hjt
            rw [hset _ (by omega), if_neg (by omega)] at hu'
            exact hu'
          · intro t ht
            by_cases hdt : o.dst = some t
            · rw [put_hit _ _ hdt, put_hit _ _ hdt]
            · rw [put_miss _ _ hdt, put_miss _ _ hdt]
              refine h.eb t fun j hj hu' hh => ht j hj ?_ hh
              rw [hset _ (by omega), if_neg (by omega)]
              exact hu'
theorem left_new (n : Nat) : left (Array.replicate n false) = n := by unfold left; simp
theorem new_false (n j : Nat) : (Array.replicate n false).getD j false = false := by
  rw [Array.getD_eq_getD_getElem?]
  rcases Nat.lt_or_ge j n with h | h
  · simp [h]
  · simp [h]
/-- A region that draws its order, whose first n operations read, and whose others come one after the other, making memory. -/
theorem draws_at (pm : List Nat) (n f : Nat) (hT : TabOk P T) {nt id : Nat} {r : List Oper} (hm : P.follows .mixedOrders = true) (hB : okB r pm (pickL r pm) n f = true) (hd : (pickL r pm).all (dstIn nt) = true) (h : vLs P T Q f n (pickL r pm) env M) : CodeTo P nt (.region id r.toArray true) Q env M := by
  intro M0 w0 a w h1 h2 h3
  obtain ⟨l, hpk⟩ : ∃ l, l = pickL r pm := ⟨_, rfl⟩
  rw [← hpk] at hB hd h
  obtain ⟨vals, c, hc0, hl, hv⟩ := lights_is hT f n l env h
  obtain ⟨⟨gl, gp, gi, gs⟩, ga, gb, g1, g2, g3, g4, g5, g6, g7⟩ := okB_spec hpk hB
  have dof : ∀ (i : Nat) (o : Oper), l[i]? = some o → dstOf l i = o.dst := by intro i o h; unfold dstOf; rw [h]; rfl
  have uniq : ∀ i j t, i < l.length → j < l.length → dstOf l i = some t → dstOf l j = some t → i = j := by
    intro i j t hi hj h1 h2
    by_cases h : i = j
    · exact h
    · exact absurd h2 (g4 i j t h hi hj h1)
  have p1 : ∀ i, i ≤ n → ∀ j t, j < i → dstOf l j = some t → c i t = vals j := by
    intro i
    induction i with
    | zero => intro _ j t hj; omega
    | succ i ih =>
      intro hi j t hj hjt
      obtain ⟨o, k1, _, k3⟩ := hl i (by omega)
      rw [k3]
      by_cases hij : j = i
      · subst hij; exact put_hit _ _ (by rw [← dof _ _ k1]; exact hjt)
      · rw [put_miss _ _ (by rw [← dof _ _ k1]; exact fun hh => hij (uniq _ _ t (by omega) (by omega) hjt hh))]
        exact ih (by omega) j t (by omega) hjt
  have p2 : ∀ i, i ≤ n → ∀ t, (∀ j, j < i → dstOf l j ≠ some t) → c i t = env t := by
    intro i
    induction i with
    | zero => intro _ t _; rw [hc0]
    | succ i ih =>
      intro hi t ht
      obtain ⟨o, k1, _, k3⟩ := hl i (by omega)
      rw [k3, put_miss _ _ (by rw [← dof _ _ k1]; exact ht i (by omega))]
      exact ih (by omega) t fun j hj => ht j (by omega)
  refine wp_region_any hm ?_
  refine any_is hT hpk hB hd hc0 hl M0 w0 _ _ _ _ 0 (c n) env M (by simp [left_new]) ⟨by simp [gl], ?_, ?_, by omega, h1, fun b B hB' => Blk.holds_of (w := w) rfl (h2 b B hB'), ⟨h3.os, h3.tape, h3.output, h3.size, h3.block, h3.own⟩, fun _ => Sub.refl _, fun j t hj ht => p1 n (Nat.le_refl n) j t hj ht, fun t ht => p2 n (Nat.le_refl n) t fun j hj => ht j (by omega), fun _ _ _ _ _ => rfl, ?_, hv⟩
  · intro j o ho hj
    rw [new_false] at hj
    cases hj
  · intro j hj hjl
    rw [new_false]
    simp
    omega
  · intro t ht
    exact (p2 n (Nat.le_refl n) t fun j hj => ht j hj (new_false _ _)).symm
theorem pick_id (l : List Oper) : pickL l (List.range l.length) = l := by
  obtain ⟨h1, h2⟩ := pick_get l (List.range l.length) (fun i hi => List.mem_range.1 hi)
  rw [List.length_range] at h1 h2
  apply List.ext_getElem?
  intro q
  rcases Nat.lt_or_ge q l.length with hq | hq
  · rw [h2 q hq]
    congr 1
    unfold pl
    rw [List.getD_eq_getElem?_getD, List.getElem?_range hq]
    rfl
  · rw [List.getElem?_eq_none (by omega), List.getElem?_eq_none hq]
/-- So where the readings stand first. -/
theorem draws_to (n f : Nat) (hT : TabOk P T) {nt id : Nat} {l : List Oper} (hm : P.follows .mixedOrders = true) (hB : okB l (List.range l.length) l n f = true) (hd : l.all (dstIn nt) = true) (h : vLs P T Q f n l env M) : CodeTo P nt (.region id l.toArray true) Q env M :=
  draws_at (List.range l.length) n f hT hm (by rw [pick_id]; exact hB) (by rw [pick_id]; exact hd) (by rw [pick_id]; exact h)
end
section
variable {P : Program} {T : Tab} {env : Env} {M : Mem} {Q : Exit → Env → Mem → Prop}
@[simp] theorem pickL_nil {r : List Oper} : pickL r [] = [] := nr rfl
@[simp] theorem pickL_cons {r : List Oper} {i : Nat} {pm : List Nat} : pickL r (i :: pm) = consP (r[i]?) (pickL r pm) := by
  conv => lhs; unfold pickL
  cases r[i]? <;> rfl
@[simp] theorem consP_some {o : Oper} {l : List Oper} : consP (some o) l = o :: l := nr rfl
@[simp] theorem keepQ_at {M0 : Mem} {r : Env → Mem → Prop} : keepQ M0 r env M = (Sub M0 M ∧ r env M) := nr rfl
@[simp] theorem sub_refl' {M : Mem} : Sub M M = True := eq_true (Sub.refl M)
@[simp] theorem vLs_zero {f : Nat} {l : List Oper} : vLs P T Q f 0 l env M = vRs P T M Q f l env M := nr rfl
@[simp] theorem vLs_succ {f n : Nat} {o : Oper} {l : List Oper} : vLs P T Q f (n + 1) (o :: l) env M = vQ P T o.op env (Kt (vLs P T Q f n l) env o.dst) M := nr rfl
@[simp] theorem vRs_nil {M0 : Mem} {f : Nat} : vRs P T M0 Q f [] env M = Q .normal env M := vRs_end M0 f
@[simp] theorem vRs_zero {M0 : Mem} {o : Oper} {l : List Oper} : vRs P T M0 Q 0 (o :: l) env M = vOp P T o.op env (Kt (vRs P T M0 Q 0 l) env o.dst) M := nr rfl
@[simp] theorem vRs_succ {M0 : Mem} {f : Nat} {o : Oper} {l : List Oper} : vRs P T M0 Q (f + 1) (o :: l) env M = vOp P T o.op env (Kt (keepQ M0 (vRs P T M0 Q f l)) env o.dst) M := nr rfl
end
end Go.Proofs.YthpcojnpiggaiaaGreat
/-! The calculus, continued: regions that draw their order, whose operations read or make memory, in groups, with guards. -/
namespace Go.Proofs.YthpcojnpiggaiaaGreat
open Go
set_option linter.unusedSimpArgs false
set_option linter.unusedVariables false

/-- Is an operation taken at this environment? -/
def Want (r : List Oper) (o : Oper) (c : Env) : Prop := ∀ j b, o.guard = some (j, b) → yE r c j = some b
/-- An operation that reads alone has its value at a memory, or is passed by. -/
def LightAt (P : Program) (r : List Oper) (o : Oper) (c : Env) (M : Mem) (v : Value) : Prop := (¬ Want r o c ∧ v = undef) ∨ (Want r o c ∧ ∃ M1, Sub M1 M ∧ QuietOp P o.op c M1 v)
def guardTmp (r : List Oper) (o : Oper) : Option Tmp := match o.guard with
  | none => none
  | some (j, _) => (r[j]?).bind (·.dst)
def gReads (r l : List Oper) (i : Nat) (t : Tmp) : Bool := readsB l i t || (match l[i]? with
  | some o => guardTmp r o == some t
  | none => false)
def hvy (ks : List Nat) (i : Nat) : Bool := ks.getD i 0 != 0
def plainTo (ks : List Nat) (j i : Nat) : Bool := (List.range i).all fun h => decide (h ≤ j) || !hvy ks h
def chainB (r : List Oper) (ks pm : List Nat) (i : Nat) : Bool := (List.range i).all (fun h => !hvy ks h) || (List.range i).any fun j => plainTo ks j i && Region.waitsFor .any r.toArray (pl pm i) (pl pm j)
def sinkAt (r : List Oper) (pm : List Nat) (p : Nat) : Bool := (List.range p).all fun i => (List.range (p + 1)).any fun j => decide (i < j) && Region.waitsFor .any r.toArray (pl pm j) (pl pm i)
def orderG (r l : List Oper) (pm : List Nat) (i j : Nat) : Bool := i == j || (match dstOf l j with
  | some t => !gReads r l i t || (decide (j < i) && Region.waitsFor .any r.toArray (pl pm i) (pl pm j)) || (decide (i < j) && Region.waitsFor .any r.toArray (pl pm j) (pl pm i))
  | none => true)
def okG (r : List Oper) (pm ks : List Nat) (l : List Oper) : Bool :=
  placeB r pm && (ks.length == l.length && (Region.noSelect r.toArray && (((List.range l.length).all fun i => (List.range l.length).all fun j => apartB l i j && orderG r l pm i j) &&
    (((List.range l.length).all fun i => chainB r ks pm i) && (((List.range l.length).all fun p => ks.getD p 0 != 2 || sinkAt r pm p) && ((List.range r.length).all fun i => backB r i))))))
theorem place_spec {r : List Oper} {pm : List Nat} {l : List Oper} (hl : l = pickL r pm) (h : placeB r pm = true) :
    l.length = r.length ∧ (∀ q, q < l.length → l[q]? = r[pl pm q]? ∧ pl pm q < r.length) ∧ (∀ i j, i < l.length → j < l.length → pl pm i = pl pm j → i = j) ∧ (∀ i, i < r.length → ∃ q, q < l.length ∧ pl pm q = i) := by
  unfold placeB at h
  simp only [Bool.and_eq_true, List.all_eq_true, decide_eq_true_eq, List.mem_range, Bool.or_eq_true, beq_iff_eq, bne_iff_ne, List.any_eq_true] at h
  obtain ⟨z1, z2, z3, z4⟩ := h
  obtain ⟨y1, y2⟩ := pick_get r pm z2
  rw [← hl] at y1 y2
  have hlen : l.length = r.length := by rw [y1, z1]
  refine ⟨hlen, fun q hq => ⟨y2 q (by omega), ?_⟩, ?_, ?_⟩
  · have hq' : q < pm.length := by omega
    unfold pl
    rw [List.getD_eq_getElem?_getD, List.getElem?_eq_getElem hq']
    exact z2 _ (List.getElem_mem hq')
  · intro i j hi hj he
    rcases z3 i (by omega) j (by omega) with hh | hh
    · exact hh
    · exact absurd he hh
  · intro i hi
    obtain ⟨q, q1, q2⟩ := z4 i hi
    exact ⟨q, by omega, q2⟩
section
variable {P : Program} {T : Tab} {env : Env} {M : Mem} {Q : Exit → Env → Mem → Prop}
def vK (P : Program) (T : Tab) (k : Nat) (o : Op) (d : Option Tmp) (rest : Env → Mem → Prop) : Env → Mem → Prop := fun env M => match k with
  | 0 => vQ P T o env (Kt rest env d) M
  | 1 => vOp P T o env (Kt (keepQ M rest) env d) M
  | _ => vOp P T o env (Kt rest env d) M
def vG (P : Program) (T : Tab) (r : List Oper) (Q : Exit → Env → Mem → Prop) : List Oper → List Nat → Env → Mem → Prop
  | [], _, env, M => Q .normal env M
  | o :: l, ks, env, M => match o.guard with
    | none => vK P T (ks.headD 0) o.op o.dst (vG P T r Q l ks.tail) env M
    | some (j, b) => vGd (yE r env j) b (vK P T (ks.headD 0) o.op o.dst (vG P T r Q l ks.tail)) (gB o.dst (vG P T r Q l ks.tail)) env M
def HeadAt (P : Program) (T : Tab) (r l : List Oper) (ks : List Nat) (Q : Exit → Env → Mem → Prop) (q : Nat) (c : Env) (M : Mem) : Prop :=
  (q = l.length ∧ Q .normal c M) ∨ ∃ o, l[q]? = some o ∧ hvy ks q = true ∧ Want r o c ∧ OpTo P o.op c M (fun v M' => (ks.getD q 0 ≠ 2 → Sub M M') ∧ vG P T r Q (l.drop (q + 1)) (ks.drop (q + 1)) (put c o.dst v) M')
theorem adv_is (hT : TabOk P T) (r : List Oper) : ∀ (l : List Oper) (ks : List Nat) (env : Env) (M : Mem), ks.length = l.length → (∀ k ∈ ks, k ≤ 2) → vG P T r Q l ks env M →
    ∃ (q : Nat) (vals : Nat → Value) (c : Nat → Env), q ≤ l.length ∧ c 0 = env ∧ (∀ i, i < q → ∃ o, l[i]? = some o ∧ LightAt P r o (c i) M (vals i) ∧ c (i + 1) = put (c i) o.dst (vals i)) ∧ HeadAt P T r l ks Q q (c q) M
  | [], ks, env, M, _, _, h => ⟨0, fun _ => undef, fun _ => env, Nat.le_refl 0, rfl, fun i hi => absurd hi (Nat.not_lt_zero i), .inl ⟨rfl, h⟩⟩
  | o :: l, [], env, M, hk, _, h => by simp at hk
  | o :: l, k :: ks, env, M, hk, h2, h => by
    have hk' : ks.length = l.length := by simpa using hk
    have h2' : ∀ k ∈ ks, k ≤ 2 := fun k hk => h2 k (List.mem_cons_of_mem _ hk)
    have more : ∀ v, LightAt P r o env M v → vG P T r Q l ks (put env o.dst v) M → ∃ (q : Nat) (vals : Nat → Value) (c : Nat → Env), q ≤ (o :: l).length ∧ c 0 = env ∧ (∀ i, i < q → ∃ o', (o :: l)[i]? = some o' ∧ LightAt P r o' (c i) M (vals i) ∧ c (i + 1) = put (c i) o'.dst (vals i)) ∧ HeadAt P T r (o :: l) (k :: ks) Q q (c q) M := by
      intro v hv hr
      obtain ⟨q, vals, c, c1, c2, c3, c4⟩ := adv_is hT r l ks _ M hk' h2' hr
      refine ⟨q + 1, fun i => match i with | 0 => v | i + 1 => vals i, fun i => match i with | 0 => env | i + 1 => c i, by simp; omega, rfl, ?_, ?_⟩
      · intro i hi
        match i with
        | 0 => exact ⟨o, rfl, hv, c2⟩
        | i + 1 =>
          obtain ⟨o', k1, k2, k3⟩ := c3 i (by omega)
          exact ⟨o', k1, k2, k3⟩
      · rcases c4 with ⟨e1, e2⟩ | ⟨o', k1, k2, k3, k4⟩
        · exact .inl ⟨by simp [e1], e2⟩
        · exact .inr ⟨o', k1, by simpa [hvy] using k2, k3, k4⟩
    have step : Want r o env → vK P T k o.op o.dst (vG P T r Q l ks) env M → ∃ (q : Nat) (vals : Nat → Value) (c : Nat → Env), q ≤ (o :: l).length ∧ c 0 = env ∧ (∀ i, i < q → ∃ o', (o :: l)[i]? = some o' ∧ LightAt P r o' (c i) M (vals i) ∧ c (i + 1) = put (c i) o'.dst (vals i)) ∧ HeadAt P T r (o :: l) (k :: ks) Q q (c q) M := by
      intro hw hv
      have hk2 := h2 k (List.mem_cons_self ..)
      have : k = 0 ∨ k = 1 ∨ k = 2 := by omega
      rcases this with rfl | rfl | rfl
      · obtain ⟨v, hq, hr⟩ := vQ_is hT o.op hv
        exact more v (.inr ⟨hw, M, Sub.refl M, hq⟩) hr
      · exact ⟨0, fun _ => undef, fun _ => env, Nat.zero_le _, rfl, fun i hi => absurd hi (Nat.not_lt_zero i), .inr ⟨o, rfl, rfl, hw, opTo_mono (vOp_is T hT o.op hv) fun v M' hq => ⟨fun _ => hq.1, hq.2⟩⟩⟩
      · exact ⟨0, fun _ => undef, fun _ => env, Nat.zero_le _, rfl, fun i hi => absurd hi (Nat.not_lt_zero i), .inr ⟨o, rfl, rfl, hw, opTo_mono (vOp_is T hT o.op hv) fun v M' hq => ⟨fun hh => absurd rfl hh, hq⟩⟩⟩
    unfold vG at h
    cases hg : o.guard with
    | none =>
      rw [hg] at h
      exact step (fun j b hh => by rw [hg] at hh; cases hh) h
    | some jb =>
      obtain ⟨j, b⟩ := jb
      rw [hg] at h
      dsimp only at h
      by_cases hy : yE r env j = some b
      · refine step (fun j' b' hh => ?_) (h.1 hy)
        rw [hg] at hh
        injection hh with hh
        injection hh with h3 h4
        subst h3; subst h4
        exact hy
      · exact more undef (.inl ⟨fun hh => hy (hh j b hg), rfl⟩) (h.2 hy)
/-- A state of a region of which some operations are done. -/
structure Sg (P : Program) (T : Tab) (r : List Oper) (pm ks : List Nat) (l : List Oper) (nt : Nat) (Q : Exit → Env → Mem → Prop) (env : Env) (M0 : Mem) (w0 : World) (listed : Array Bool) (a : Act) (w : World) (p : Nat) (vals : Nat → Value) (c : Nat → Env) (e : Env) (M' : Mem) : Prop where
  size : listed.size = l.length
  closed : ∀ (j : Nat) (o : Oper), l[j]? = some o → listed.getD (pl pm j) false = true → ∀ x ∈ o.after, Region.binds .any x = true → listed.getD x.on false = true
  hp : p ≤ l.length
  low : ∀ j, j < l.length → listed.getD (pl pm j) false = true → j < p
  fits : Fits nt e a
  rep : Rep M' w
  ext : Ext M0 w0 M' w
  c0 : c 0 = env
  cs : ∀ i, i < p → c (i + 1) = put (c i) (dstOf l i) (vals i)
  light : ∀ i o, i < p → l[i]? = some o → listed.getD (pl pm i) false = false → LightAt P r o (c i) M' (vals i)
  ea : ∀ j t, dstOf l j = some t → listed.getD (pl pm j) false = true → e t = vals j
  eb : ∀ j t, dstOf l j = some t → listed.getD (pl pm j) false = false → e t = env t
  ec : ∀ t, (∀ j, dstOf l j ≠ some t) → e t = env t
  head : HeadAt P T r l ks Q p (c p) M'
theorem want_is {r : List Oper} {o : Oper} {nt : Nat} {e : Env} {a : Act} (hf : Fits nt e a) : Region.wanted o (yielded r.toArray a.tmps) = true ↔ Want r o e := by
  unfold Region.wanted Want
  cases hg : o.guard with
  | none => simp
  | some jb =>
    obtain ⟨j, b⟩ := jb
    have hy := yielded_fits hf r.toArray j
    rw [show r.toArray.toList = r from rfl] at hy
    simp [hy]
theorem want_congr {r : List Oper} {o : Oper} {e c : Env} (h : ∀ t, guardTmp r o = some t → e t = c t) : Want r o e ↔ Want r o c := by
  unfold Want
  have key : ∀ j b, o.guard = some (j, b) → yE r e j = yE r c j := by
    intro j b hg
    unfold guardTmp at h
    rw [hg] at h
    dsimp only at h
    unfold yE
    cases hd : (r[j]?).bind (·.dst) with
    | none => rfl
    | some t => dsimp only; rw [h t hd]
  constructor
  · intro hh j b hg; rw [← key j b hg]; exact hh j b hg
  · intro hh j b hg; rw [key j b hg]; exact hh j b hg
theorem anyG_is (hT : TabOk P T) {r : List Oper} {pm ks : List Nat} {l : List Oper} {nt : Nat} (hpk : l = pickL r pm) (hk2 : ∀ k ∈ ks, k ≤ 2) (hok : okG r pm ks l = true) (hd : l.all (dstIn nt) = true) (M0 : Mem) (w0 : World) :
    ∀ (fuel : Nat) (listed : Array Bool) (a : Act) (w : World) (p : Nat) (vals : Nat → Value) (c : Nat → Env) (e : Env) (M' : Mem), left listed = fuel → Sg P T r pm ks l nt Q env M0 w0 listed a w p vals c e M' → wpAny P .any r.toArray (Way nt M0 w0 Q) fuel listed a w := by
  unfold okG at hok
  simp only [Bool.and_eq_true, List.all_eq_true, beq_iff_eq, List.mem_range, Bool.or_eq_true, bne_iff_ne] at hok
  obtain ⟨hplace, hkl, hsel0, hao, hch, hsk, hbk⟩ := hok
  obtain ⟨gl, gp, gi, gs⟩ := place_spec hpk hplace
  have dof : ∀ (i : Nat) (o : Oper), l[i]? = some o → dstOf l i = o.dst := by intro i o h; unfold dstOf; rw [h]; rfl
  have dlt : ∀ j t, dstOf l j = some t → j < l.length := by
    intro j t h
    rcases Nat.lt_or_ge j l.length with h1 | h1
    · exact h1
    · unfold dstOf at h; rw [List.getElem?_eq_none h1] at h; cases h
  have uniq : ∀ i j t, dstOf l i = some t → dstOf l j = some t → i = j := by
    intro i j t h1 h2
    have := (hao i (dlt i t h1) j (dlt j t h2)).1
    unfold apartB at this
    rw [h1, h2] at this
    by_cases h : i = j
    · exact h
    · simp [h] at this
  have waits : ∀ (i j : Nat) (o : Oper), l[i]? = some o → Region.waitsFor .any r.toArray (pl pm i) (pl pm j) = true → ∃ x ∈ o.after, Region.binds .any x = true ∧ x.on = pl pm j := by
    intro i j o ho h
    obtain ⟨oj, h1, x, h2, h3, h4⟩ := Region.waitsFor_spec h
    have hi : i < l.length := (List.getElem?_eq_some_iff.1 ho).1
    rw [List.getElem?_toArray, ← (gp i hi).1, ho] at h1
    injection h1 with h1
    subst h1
    exact ⟨x, h2, h3, h4⟩
  have ord : ∀ i j t, i ≠ j → i < l.length → dstOf l j = some t → gReads r l i t = true → (j < i ∧ Region.waitsFor .any r.toArray (pl pm i) (pl pm j) = true) ∨ (i < j ∧ Region.waitsFor .any r.toArray (pl pm j) (pl pm i) = true) := by
    intro i j t hij hi hj hr
    have := (hao i hi j (dlt j t hj)).2
    unfold orderG at this
    rw [hj] at this
    simpa [hij, hr] using this
  have back : ∀ (i : Nat) (o : Oper), r[i]? = some o → ∀ e ∈ o.after, Region.binds .any e = true → e.on < i := by
    intro i o ho e he hb
    have := hbk i (List.getElem?_eq_some_iff.1 ho).1
    unfold backB at this
    rw [ho] at this
    have := Array.all_eq_true'.1 this e he
    simpa [hb] using this
  -- values along the order of the proof
  have p1 : ∀ {p : Nat} {vals : Nat → Value} {c : Nat → Env}, (∀ i, i < p → c (i + 1) = put (c i) (dstOf l i) (vals i)) → ∀ i, i ≤ p → ∀ j t, j < i → dstOf l j = some t → c i t = vals j := by
    intro p vals c hc i
    induction i with
    | zero => intro _ j t hj; omega
    | succ i ih =>
      intro hi j t hj hjt
      rw [hc i (by omega)]
      by_cases hij : j = i
      · subst hij; exact put_hit _ _ hjt
      · rw [put_miss _ _ (fun hh => hij (uniq _ _ t hjt hh))]
        exact ih (by omega) j t (by omega) hjt
  have p2 : ∀ {p : Nat} {vals : Nat → Value} {c : Nat → Env}, c 0 = env → (∀ i, i < p → c (i + 1) = put (c i) (dstOf l i) (vals i)) → ∀ i, i ≤ p → ∀ t, (∀ j, j < i → dstOf l j ≠ some t) → c i t = env t := by
    intro p vals c hc0 hc i
    induction i with
    | zero => intro _ t _; rw [hc0]
    | succ i ih =>
      intro hi t ht
      rw [hc i (by omega), put_miss _ _ (ht i (by omega))]
      exact ih (by omega) t fun j hj => ht j (by omega)
  have fin : ∀ {listed : Array Bool} {a : Act} {w : World} {p : Nat} {vals : Nat → Value} {c : Nat → Env} {e : Env} {M' : Mem}, Sg P T r pm ks l nt Q env M0 w0 listed a w p vals c e M' → (∀ j, j < l.length → listed.getD (pl pm j) false = true) → Way nt M0 w0 Q .normal a w := by
    intro listed a w p vals c e M' h all
    have hpn : p = l.length := by
      rcases Nat.lt_or_ge p l.length with h1 | h1
      · have := h.low p h1 (all p h1); omega
      · have := h.hp; omega
    have hQ : Q .normal (c p) M' := by
      rcases h.head with ⟨_, hq⟩ | ⟨o, ho, _⟩
      · exact hq
      · rw [hpn, List.getElem?_eq_none (Nat.le_refl _)] at ho; cases ho
    have he : e = c p := by
      funext t
      by_cases hw : ∃ j, dstOf l j = some t
      · obtain ⟨j, hj⟩ := hw
        rw [h.ea j t hj (all j (dlt j t hj))]
        exact (p1 h.cs p (Nat.le_refl p) j t (by rw [hpn]; exact dlt j t hj) hj).symm
      · have hno : ∀ j, dstOf l j ≠ some t := fun j hh => hw ⟨j, hh⟩
        rw [h.ec t hno]
        exact (p2 h.c0 h.cs p (Nat.le_refl p) t fun j _ => hno j).symm
    exact ⟨c p, M', he ▸ h.fits, h.rep, h.ext, hQ⟩
  intro fuel
  induction fuel with
  | zero =>
    intro listed a w p vals c e M' hf h
    have allO : ∀ j, j < r.length → listed.getD j false = true := by
      intro j hj
      have h0 : listed.toList.count false = 0 := hf
      rw [List.count_eq_zero] at h0
      have hsz := h.size
      rw [Array.getD_eq_getD_getElem?, Array.getElem?_eq_getElem (by omega)]
      simp only [Option.getD_some]
      cases hb : listed[j] with
      | true => rfl
      | false => exact absurd (by rw [← hb]; exact Array.mem_toList_iff.2 (Array.getElem_mem _)) h0
    have hready : Region.ready .any r.toArray listed = [] := by
      rw [List.eq_nil_iff_forall_not_mem]
      intro i hi
      obtain ⟨h1, o, h2, _⟩ := mem_ready.1 hi
      have := allO i (by rw [List.getElem?_toArray] at h2; exact (List.getElem?_eq_some_iff.1 h2).1)
      rw [(getD_of h1).1] at this
      cases this
    exact ⟨hready, fin h fun j hj => allO _ (gp j hj).2⟩
  | succ fuel ih =>
    intro listed a w p vals c e M' hf h
    refine ⟨fun hr => ?_, fun i hi => ?_⟩
    · have allO : ∀ j, j < r.length → listed.getD j false = true := by
        intro j
        induction j using Nat.strongRecOn with
        | _ j ihj =>
          intro hj
          cases hb : listed.getD j false with
          | true => rfl
          | false =>
            exfalso
            have hsz := h.size
            have : j ∈ Region.ready .any r.toArray listed := by
              refine mem_ready.2 ⟨?_, r[j], by simp [hj], ?_⟩
              · rw [Array.getD_eq_getD_getElem?, Array.getElem?_eq_getElem (by omega)] at hb ⊢
                exact hb
              · intro x hx hbx
                have hlt := back j r[j] (List.getElem?_eq_getElem hj) x hx hbx
                exact ihj x.on hlt (by omega)
            rw [hr] at this
            cases this
      exact fin h fun j hj => allO _ (gp j hj).2
    · obtain ⟨h1, o, h2, h3⟩ := mem_ready.1 hi
      rw [List.getElem?_toArray] at h2
      obtain ⟨i, hil, rfl⟩ := gs _ (List.getElem?_eq_some_iff.1 h2).1
      have h2r := h2
      rw [← (gp i hil).1] at h2
      obtain ⟨hu, hul⟩ := getD_of h1
      have hsz := h.size
      have hdo := List.all_eq_true.1 hd o (List.mem_of_getElem? h2)
      have hsel : ∀ cs b, o.op ≠ .select cs b := fun cs b => Region.noSelect_spec hsel0 _ o cs b (by rw [List.getElem?_toArray]; exact h2r)
      have hleft : left (listed.setIfInBounds (pl pm i) true) = fuel := by
        unfold left at *
        rw [Array.toList_setIfInBounds]
        have := left_set listed.toList _ hul
        omega
      have hpi := (gp i hil).2
      have hset0 : ∀ j, (listed.setIfInBounds (pl pm i) true).getD j false = if j = pl pm i then true else listed.getD j false := fun j => getD_set' (by omega)
      have hset : ∀ j, j < l.length → (listed.setIfInBounds (pl pm i) true).getD (pl pm j) false = if j = i then true else listed.getD (pl pm j) false := by
        intro j hj
        rw [hset0]
        by_cases hji : j = i
        · rw [if_pos (by rw [hji]), if_pos hji]
        · rw [if_neg (fun hh => hji (gi j i hj hil hh)), if_neg hji]
      have hclosed : ∀ (j : Nat) (o' : Oper), l[j]? = some o' → (listed.setIfInBounds (pl pm i) true).getD (pl pm j) false = true → ∀ x ∈ o'.after, Region.binds .any x = true → (listed.setIfInBounds (pl pm i) true).getD x.on false = true := by
        intro j o' ho' hj x hx hb
        have hjl : j < l.length := (List.getElem?_eq_some_iff.1 ho').1
        rw [hset j hjl] at hj
        rw [hset0]
        split
        · rfl
        · by_cases hji : j = i
          · subst hji
            rw [h2] at ho'
            injection ho' with ho'
            subst ho'
            exact h3 x hx hb
          · rw [if_neg hji] at hj
            exact h.closed j o' ho' hj x hx hb
      have hdi := dof i o h2
      -- no operation behind the head is ready
      have hip : i ≤ p := by
        rcases Nat.lt_or_ge p i with hlt | hge
        · exfalso
          rcases h.head with ⟨hpn, _⟩ | ⟨o', _, hh, _⟩
          · omega
          · have hci := hch i hil
            unfold chainB at hci
            rw [Bool.or_eq_true, List.all_eq_true, List.any_eq_true] at hci
            rcases hci with hno | ⟨j, hj, hjj⟩
            · have := hno p (List.mem_range.2 hlt)
              rw [hh] at this
              cases this
            · rw [Bool.and_eq_true] at hjj
              obtain ⟨x, k1, k2, k3⟩ := waits i j o h2 hjj.2
              have hlj := h3 x k1 k2
              rw [k3] at hlj
              have hjl : j < l.length := by have := List.mem_range.1 hj; omega
              have hjp := h.low j hjl hlj
              have := hjj.1
              unfold plainTo at this
              have := List.all_eq_true.1 this p (List.mem_range.2 hlt)
              rw [hh] at this
              simp at this
              omega
        · exact hge
      -- what the operation reads is what it reads in the order of the proof
      have same : ∀ t, gReads r l i t = true → e t = c i t := by
        intro t ht
        by_cases hwr : ∃ j, dstOf l j = some t
        · obtain ⟨j, hj⟩ := hwr
          by_cases hji : j = i
          · subst hji
            rw [h.eb j t hj hu]
            exact (p2 h.c0 h.cs j hip t fun j' hj' hh => by have := uniq j' j t hh hj; omega).symm
          · rcases ord i j t (Ne.symm hji) hil hj ht with ⟨hlt, hw⟩ | ⟨hlt, hw⟩
            · obtain ⟨x, k1, k2, k3⟩ := waits i j o h2 hw
              have hlj := h3 x k1 k2
              rw [k3] at hlj
              rw [h.ea j t hj hlj]
              exact (p1 h.cs i hip j t hlt hj).symm
            · have hjl := dlt j t hj
              have hnl : listed.getD (pl pm j) false = false := by
                cases hb : listed.getD (pl pm j) false with
                | false => rfl
                | true =>
                  obtain ⟨x, k1, k2, k3⟩ := waits j i l[j] (List.getElem?_eq_getElem hjl) hw
                  have := h.closed j l[j] (List.getElem?_eq_getElem hjl) hb x k1 k2
                  rw [k3, hu] at this
                  cases this
              rw [h.eb j t hj hnl]
              exact (p2 h.c0 h.cs i hip t fun j' hj' hh => by have := uniq j' j t hh hj; omega).symm
        · have hno : ∀ j, dstOf l j ≠ some t := fun j hh => hwr ⟨j, hh⟩
          rw [h.ec t hno]
          exact (p2 h.c0 h.cs i hip t fun j _ => hno j).symm
      have hx : ∀ x ∈ o.op.operands, ev e x = ev (c i) x := by
        intro x hx
        cases x with
        | const v => rfl
        | global g => rfl
        | func f => rfl
        | tmp t => exact same t (by unfold gReads; rw [reads_mem h2 hx]; rfl)
      have hwant : Want r o e ↔ Want r o (c i) := want_congr fun t ht => same t (by unfold gReads; rw [h2]; simp [ht])
      unfold wpOp
      rw [List.getElem?_toArray, h2r]
      dsimp only
      by_cases hin : i < p
      · -- an operation before the head
        have hL := h.light i o hin h2 hu
        have hnext : ∀ w', Rep M' w' → Ext M' w M' w' → wpAny P .any r.toArray (Way nt M0 w0 Q) fuel (listed.setIfInBounds (pl pm i) true) (a.put o.dst (vals i)) w' := by
          intro w' hr' he'
          refine ih _ _ _ p vals c (put e o.dst (vals i)) M' hleft ⟨by simp [hsz], hclosed, h.hp, ?_, h.fits.put (dstIn_spec hdo) _, hr', h.ext.trans he', h.c0, h.cs, ?_, ?_, ?_, ?_, h.head⟩
          · intro j hj hlj
            rw [hset j hj] at hlj
            by_cases hji : j = i
            · omega
            · rw [if_neg hji] at hlj; exact h.low j hj hlj
          · intro j o' hj ho' hlj
            rw [hset j (by have := h.hp; omega)] at hlj
            by_cases hji : j = i
            · rw [if_pos hji] at hlj; cases hlj
            · rw [if_neg hji] at hlj; exact h.light j o' hj ho' hlj
          · intro j t hj hlj
            rw [hset j (dlt j t hj)] at hlj
            by_cases hji : j = i
            · subst hji; exact put_hit _ _ (by rw [← hdi]; exact hj)
            · rw [if_neg hji] at hlj
              rw [put_miss _ _ (by rw [← hdi]; exact fun hh => hji (uniq j i t hj hh))]
              exact h.ea j t hj hlj
          · intro j t hj hlj
            rw [hset j (dlt j t hj)] at hlj
            by_cases hji : j = i
            · rw [if_pos hji] at hlj; cases hlj
            · rw [if_neg hji] at hlj
              rw [put_miss _ _ (by rw [← hdi]; exact fun hh => hji (uniq j i t hj hh))]
              exact h.eb j t hj hlj
          · intro t ht
            rw [put_miss _ _ (by rw [← hdi]; exact ht i)]
            exact h.ec t ht
        rcases hL with ⟨hw, hv⟩ | ⟨hw, M1, hsub, q2⟩
        · rw [if_neg (by rw [want_is h.fits, hwant]; exact hw), ← hv]
          exact hnext w h.rep (Ext.refl _ _)
        · rw [if_pos (by rw [want_is h.fits, hwant]; exact hw)]
          refine Or.inl ?_
          unfold Oper.wp
          have hex : execOp a.eval o = execOp (ev (c i)) o := by rw [h.fits.ev]; exact execOp_congr o hsel hx
          rw [hex]
          rcases q2 w o (h.rep.sub hsub) rfl with hr | ⟨f, args, hr, hcall⟩
          · rw [hr]
            exact hnext w h.rep (Ext.refl _ _)
          · rw [hr]
            refine hcall.mono ?_
            rintro e' w' ⟨rfl, k1, k2⟩
            exact hnext w' (rep_frame h.rep hsub k1 k2) ⟨k2.os, k2.tape, k2.output, k2.size, fun b hb ho => k2.block b hb (fun hh => ho (owns_sub hsub hh)), fun b hb => .inl hb⟩
      · -- the head
        have hieq : i = p := by omega
        subst hieq
        rcases h.head with ⟨hpn, _⟩ | ⟨o', ho', hh, hw, hO⟩
        · omega
        · rw [h2] at ho'
          injection ho' with ho'
          subst ho'
          rw [if_pos (by rw [want_is h.fits, hwant]; exact hw)]
          refine Or.inl ?_
          unfold Oper.wp
          refine opTo_at (nt := nt) (c := c i) (e := e) hsel hdo hO h.fits (fun x hxx => (hx x hxx).symm) ?_ h.rep _ _ ?_
          · intro t ht
            have hno : ∀ j, dstOf l j ≠ some t := fun j hh => by
              have hjl := dlt j t hh
              have := dstIn_spec (List.all_eq_true.1 hd l[j] (List.getElem_mem hjl)) t (by rw [← dof j l[j] (List.getElem?_eq_getElem hjl)]; exact hh)
              exact absurd this (Nat.not_lt.2 ht)
            rw [p2 h.c0 h.cs i hip t fun j _ => hno j, ← h.ec t hno]
            have := congrFun h.fits.ev (.tmp t)
            simp only [Act.eval, ev] at this
            rw [← this, Array.getD_eq_getD_getElem?, Array.getElem?_eq_none (by rw [h.fits.size]; exact ht)]
            rfl
          · intro v M'' w' k1 k2 k3
            obtain ⟨k3, k4⟩ := k3
            obtain ⟨q, vals', c', c1, c2, c3, c4⟩ := adv_is hT r _ _ _ _ (by rw [List.length_drop, List.length_drop, hkl]) (fun k hk => hk2 k (List.mem_of_mem_drop hk)) k4
            rw [List.length_drop] at c1
            have hsinks : ks.getD i 0 = 2 → ∀ j, j < i → listed.getD (pl pm j) false = true := by
              intro h22
              have hs := hsk i hil
              rcases hs with hs | hs
              · exact absurd h22 hs
              · unfold sinkAt at hs
                have key : ∀ d j, i - j = d → j < i → listed.getD (pl pm j) false = true := by
                  intro d
                  induction d using Nat.strongRecOn with
                  | _ d ihd =>
                    intro j hd' hj
                    obtain ⟨j', r1, r2⟩ := List.any_eq_true.1 (List.all_eq_true.1 hs j (List.mem_range.2 hj))
                    rw [Bool.and_eq_true, decide_eq_true_eq] at r2
                    have hj'i : j' ≤ i := by have := List.mem_range.1 r1; omega
                    by_cases hji : j' = i
                    · subst hji
                      obtain ⟨x, k1, k2, k3⟩ := waits j' j o h2 r2.2
                      have := h3 x k1 k2
                      rw [k3] at this
                      exact this
                    · have hlj := ihd (i - j') (by omega) j' rfl (by omega)
                      have hjl : j' < l.length := by omega
                      obtain ⟨x, k1, k2, k3⟩ := waits j' j l[j'] (List.getElem?_eq_getElem hjl) r2.2
                      have := h.closed j' l[j'] (List.getElem?_eq_getElem hjl) hlj x k1 k2
                      rw [k3] at this
                      exact this
                exact fun j hj => key _ j rfl hj
            refine ih _ _ _ (i + 1 + q) (fun j => if j < i then vals j else if j = i then v else vals' (j - (i + 1))) (fun j => if j ≤ i then c j else c' (j - (i + 1))) (put e o.dst v) M'' hleft ⟨by simp [hsz], hclosed, by omega, ?_, h.fits.put (dstIn_spec hdo) _, k1, h.ext.trans k2, by simp [h.c0], ?_, ?_, ?_, ?_, ?_, ?_⟩
            · intro j hj hlj
              rw [hset j hj] at hlj
              by_cases hji : j = i
              · omega
              · rw [if_neg hji] at hlj; have := h.low j hj hlj; omega
            · intro j hj
              rcases Nat.lt_trichotomy j i with hlt | heq | hgt
              · simp only [if_pos (show j + 1 ≤ i by omega), if_pos (show j ≤ i by omega), if_pos hlt]
                exact h.cs j hlt
              · subst heq
                simp only [if_neg (show ¬ j + 1 ≤ j by omega), if_pos (Nat.le_refl j), if_neg (Nat.lt_irrefl j), if_true]
                rw [Nat.sub_self, c2, hdi]
              · obtain ⟨o', q1, q2, q3⟩ := c3 (j - (i + 1)) (by omega)
                simp only [if_neg (show ¬ j + 1 ≤ i by omega), if_neg (show ¬ j ≤ i by omega), if_neg (show ¬ j < i by omega), if_neg (show ¬ j = i by omega)]
                rw [List.getElem?_drop, show i + 1 + (j - (i + 1)) = j by omega] at q1
                rw [dof j o' q1, ← q3]
                congr 1
                omega
            · intro j o' hj ho' hlj
              have hjl : j < l.length := (List.getElem?_eq_some_iff.1 ho').1
              rw [hset j hjl] at hlj
              by_cases hji : j = i
              · rw [if_pos hji] at hlj; cases hlj
              · rw [if_neg hji] at hlj
                rcases Nat.lt_or_ge j i with hlt | hge
                · simp only [if_pos (show j ≤ i by omega), if_pos hlt]
                  rcases h.light j o' hlt ho' hlj with hA | ⟨hA, M1, hB, hC⟩
                  · exact .inl hA
                  · refine .inr ⟨hA, M1, hB.trans (k3 fun h22 => ?_), hC⟩
                    rw [hsinks h22 j hlt] at hlj
                    cases hlj
                · obtain ⟨o2, q1, q2, q3⟩ := c3 (j - (i + 1)) (by omega)
                  rw [List.getElem?_drop, show i + 1 + (j - (i + 1)) = j by omega, ho'] at q1
                  injection q1 with q1
                  subst q1
                  simp only [if_neg (show ¬ j ≤ i by omega), if_neg (show ¬ j < i by omega), if_neg (show ¬ j = i by omega)]
                  exact q2
            · intro j t hj hlj
              rw [hset j (dlt j t hj)] at hlj
              by_cases hji : j = i
              · subst hji
                simp only [if_neg (Nat.lt_irrefl j), if_true]
                exact put_hit _ _ (by rw [← hdi]; exact hj)
              · rw [if_neg hji] at hlj
                have := h.low j (dlt j t hj) hlj
                simp only [if_pos this]
                rw [put_miss _ _ (by rw [← hdi]; exact fun hh => hji (uniq j i t hj hh))]
                exact h.ea j t hj hlj
            · intro j t hj hlj
              rw [hset j (dlt j t hj)] at hlj
              by_cases hji : j = i
              · rw [if_pos hji] at hlj; cases hlj
              · rw [if_neg hji] at hlj
                rw [put_miss _ _ (by rw [← hdi]; exact fun hh => hji (uniq j i t hj hh))]
                exact h.eb j t hj hlj
            · intro t ht
              rw [put_miss _ _ (by rw [← hdi]; exact ht i)]
              exact h.ec t ht
            · have e1 : (if i + 1 + q ≤ i then c (i + 1 + q) else c' (i + 1 + q - (i + 1))) = c' q := by
                rw [if_neg (by omega)]; congr 1; omega
              show HeadAt P T r l ks Q (i + 1 + q) (if i + 1 + q ≤ i then c (i + 1 + q) else c' (i + 1 + q - (i + 1))) M''
              rw [e1]
              rcases c4 with ⟨d1, d2⟩ | ⟨o2, d1, d2, d3, d4⟩
              · rw [List.length_drop] at d1
                exact .inl ⟨by omega, d2⟩
              · refine .inr ⟨o2, ?_, ?_, d3, ?_⟩
                · rw [List.getElem?_drop] at d1; exact d1
                · unfold hvy at d2 ⊢
                  rw [List.getD_eq_getElem?_getD, List.getElem?_drop] at d2
                  rw [List.getD_eq_getElem?_getD]
                  exact d2
                · rw [List.getD_eq_getElem?_getD, List.getElem?_drop, List.drop_drop, List.drop_drop, ← List.getD_eq_getElem?_getD] at d4
                  exact d4
/-- A region that draws its order: pm is the order of the proof, ks tells of each operation there whether it reads (0), makes memory and keeps what was told (1), or does as it likes behind all that it waits for (2). -/
theorem draws (pm ks : List Nat) (hT : TabOk P T) {nt id : Nat} {r : List Oper} (hm : P.follows .mixedOrders = true) (hk : ks.all (fun k => decide (k ≤ 2)) = true) (hB : okG r pm ks (pickL r pm) = true) (hd : (pickL r pm).all (dstIn nt) = true) (h : vG P T r Q (pickL r pm) ks env M) : CodeTo P nt (.region id r.toArray true) Q env M := by
  intro M0 w0 a w h1 h2 h3
  have hk' : ∀ k ∈ ks, k ≤ 2 := fun k hkk => by have := List.all_eq_true.1 hk k hkk; simpa using this
  have hkl : ks.length = (pickL r pm).length := by
    have := hB
    unfold okG at this
    simp only [Bool.and_eq_true, beq_iff_eq] at this
    exact this.2.1
  have hplace : placeB r pm = true := by
    have := hB
    unfold okG at this
    simp only [Bool.and_eq_true] at this
    exact this.1
  obtain ⟨gl, gp, gi, gs⟩ := place_spec rfl hplace
  obtain ⟨q, vals, c, c1, c2, c3, c4⟩ := adv_is hT r _ _ _ _ hkl hk' h
  refine wp_region_any hm ?_
  refine anyG_is hT rfl hk' hB hd M0 w0 _ _ _ _ q vals c env M (by simp [left_new]) ⟨by simp [gl], ?_, c1, ?_, h1, fun b B hB' => Blk.holds_of (w := w) rfl (h2 b B hB'), ⟨h3.os, h3.tape, h3.output, h3.size, h3.block, h3.own⟩, c2, ?_, ?_, ?_, ?_, ?_, c4⟩
  · intro j o ho hj
    rw [new_false] at hj
    cases hj
  · intro j hj hlj
    rw [new_false] at hlj
    cases hlj
  · intro i hi
    obtain ⟨o, q1, q2, q3⟩ := c3 i hi
    rw [q3]
    unfold dstOf
    rw [q1]; rfl
  · intro i o hi ho _
    obtain ⟨o', q1, q2, q3⟩ := c3 i hi
    rw [ho] at q1
    injection q1 with q1
    subst q1
    exact q2
  · intro j t _ hlj
    rw [new_false] at hlj
    cases hlj
  · intro j t _ _; rfl
  · intro t _; rfl
end
section
variable {P : Program} {T : Tab} {env : Env} {M : Mem} {Q : Exit → Env → Mem → Prop} {r l : List Oper} {ks : List Nat}
@[simp] theorem vG_nil : vG P T r Q [] ks env M = Q .normal env M := nr (by unfold vG; rfl)
@[simp] theorem vG_plain {d : Option Tmp} {o : Op} {ty : TypeId} {pos : String} {af : Array Edge} {k : Nat} : vG P T r Q (⟨d, o, ty, pos, af, none⟩ :: l) (k :: ks) env M = vK P T k o d (vG P T r Q l ks) env M := nr rfl
@[simp] theorem vG_guard {d : Option Tmp} {o : Op} {ty : TypeId} {pos : String} {af : Array Edge} {j k : Nat} {b : Bool} : vG P T r Q (⟨d, o, ty, pos, af, some (j, b)⟩ :: l) (k :: ks) env M = vGd (yE r env j) b (vK P T k o d (vG P T r Q l ks)) (gB d (vG P T r Q l ks)) env M := nr rfl
@[simp] theorem vK_0 {o : Op} {d : Option Tmp} {rest : Env → Mem → Prop} : vK P T 0 o d rest env M = vQ P T o env (Kt rest env d) M := nr rfl
@[simp] theorem vK_1 {o : Op} {d : Option Tmp} {rest : Env → Mem → Prop} : vK P T 1 o d rest env M = vOp P T o env (Kt (keepQ M rest) env d) M := nr rfl
@[simp] theorem vK_2 {o : Op} {d : Option Tmp} {rest : Env → Mem → Prop} : vK P T 2 o d rest env M = vOp P T o env (Kt rest env d) M := nr rfl
end
end Go.Proofs.YthpcojnpiggaiaaGreat
/-! The calculus, continued: regions that draw their order, by a plan that may part where operations that make memory come in either order. -/
namespace Go.Proofs.YthpcojnpiggaiaaGreat
open Go
set_option linter.unusedSimpArgs false
set_option linter.unusedVariables false

/-- The order of a proof: readings; an operation that makes memory (its kind as in 'draws'); or one of several. -/
inductive Plan where
  | fin
  | light (i : Nat) (p : Plan)
  | one (x k : Nat) (p : Plan)
  | alt (x k : Nat) (p q : Plan)
/-- Readings one after the other. -/
def lights : List Nat → Plan → Plan
  | [], p => p
  | i :: l, p => .light i (lights l p)
def Plan.heads : Plan → List Nat
  | .one x _ _ => [x]
  | .alt x _ _ q => x :: q.heads
  | _ => []
def tmpsOf (r : List Oper) (o : Oper) : List Tmp := (match guardTmp r o with | some t => [t] | none => []) ++ o.op.operands.toList.filterMap fun x => match x with | .tmp t => some t | _ => none
def waitB (r : List Oper) (i j : Nat) : Bool := Region.waitsFor .any r.toArray i j
def okRead (r : List Oper) (pre : List Nat) (i : Nat) (t : Tmp) : Bool :=
  (pre.any fun j => dstOf r j == some t && waitB r i j) || (pre.all (fun j => dstOf r j != some t) && (List.range r.length).all fun j => dstOf r j != some t || (j == i || waitB r j i))
def addB (r : List Oper) (pre : List Nat) (i : Nat) : Bool := match r[i]? with
  | some o => !pre.contains i && (tmpsOf r o).all fun t => okRead r pre i t
  | none => false
def futB (r : List Oper) (pre hs : List Nat) : Bool := (List.range r.length).all fun i => pre.contains i || (hs.contains i || (List.range r.length).any fun j => !pre.contains j && waitB r i j)
/-- Operations that read no memory. -/
def pureO : Op → Bool
  | .move _ => true
  | .assign _ => true
  | .pick _ _ _ => true
  | .extract _ _ => true
  | .binOp _ _ _ _ _ => true
  | .unOp _ _ _ => true
  | .slice _ _ _ _ _ => true
  | .field _ _ _ => true
  | .indexAddr _ _ _ => true
  | .fieldAddr _ _ _ => true
  | .nilCheck _ => true
  | .index _ _ _ => true
  | .call ⟨.builtin .min, _, _⟩ => true
  | .call ⟨.builtin .max, _, _⟩ => true
  | .call ⟨.builtin .len, ⟨[_]⟩, ⟨[_]⟩⟩ => true
  | _ => false
def pureAt (r : List Oper) (j : Nat) : Bool := match r[j]? with
  | some o => pureO o.op
  | none => false
def emptyM : Mem := fun _ => none
def memOf (o : Oper) (M : Mem) : Mem := if pureO o.op then emptyM else M
theorem empty_sub (M : Mem) : Sub emptyM M := fun b B h => by cases h
theorem memOf_sub (o : Oper) (M : Mem) : Sub (memOf o M) M := by
  unfold memOf
  split
  · exact empty_sub M
  · exact Sub.refl M
def bareB (r : List Oper) (x : Nat) : Bool := match r[x]? with
  | some o => o.guard.isNone
  | none => false
def sinkP (r : List Oper) (pre hs : List Nat) (x : Nat) : Bool := pre.all fun j => (pureAt r j || (hs.contains j && bareB r j)) || (x :: pre).any fun i => (i == x || !pureAt r i) && waitB r i j
def okPln (r : List Oper) : Option (List Nat) → List Nat → List Nat → Plan → Bool
  | none, pre, hs, .fin => (List.range r.length).all fun i => pre.contains i
  | none, pre, hs, .light i p => addB r pre i && okPln r none (i :: pre) hs p
  | some _, _, _, .fin => false
  | some _, _, _, .light _ _ => false
  | h, pre, hs, .one x k p => addB r pre x && (futB r pre (h.getD [x]) && ((h.isNone || bareB r x) && ((k != 2 || sinkP r pre hs x) && (decide (1 ≤ k ∧ k ≤ 2) && okPln r none (x :: pre) (x :: hs) p))))
  | h, pre, hs, .alt x k p q => addB r pre x && (futB r pre (h.getD (x :: q.heads)) && (bareB r x && ((k != 2 || sinkP r pre hs x) && (decide (1 ≤ k ∧ k ≤ 2) && (okPln r none (x :: pre) (x :: hs) p && okPln r (some (h.getD (x :: q.heads))) pre hs q)))))
def okAll (r : List Oper) (p : Plan) : Bool := Region.noSelect r.toArray && (((List.range r.length).all fun i => (List.range r.length).all fun j => apartB r i j) && (((List.range r.length).all fun i => backB r i) && okPln r none [] [] p))
section
variable {P : Program} {T : Tab} {env : Env} {M : Mem} {Q : Exit → Env → Mem → Prop}
def vStep (P : Program) (T : Tab) (r : List Oper) (k : Nat) (o : Option Oper) (rest : Env → Mem → Prop) (env : Env) (M : Mem) : Prop := match o with
  | some o => (match o.guard with
    | none => vK P T k o.op o.dst rest env M
    | some (j, b) => vGd (yE r env j) b (vK P T k o.op o.dst rest) (gB o.dst rest) env M)
  | none => False
def vT (P : Program) (T : Tab) (r : List Oper) (Q : Exit → Env → Mem → Prop) : Plan → Env → Mem → Prop
  | .fin, env, M => Q .normal env M
  | .light i p, env, M => vStep P T r 0 r[i]? (vT P T r Q p) env M
  | .one x k p, env, M => vStep P T r k r[x]? (vT P T r Q p) env M
  | .alt x k p q, env, M => vStep P T r k r[x]? (vT P T r Q p) env M ∧ vT P T r Q q env M
theorem vR_mem {r : Out} {K : Value → Mem → Prop} {M M' : Mem} (h : vR r K M) : vR r (fun v _ => K v M) M' := by
  cases r with
  | ok v => exact h
  | need p v => exact h
  | no => exact h
theorem pure_vQ {P : Program} {T : Tab} {o : Op} {env : Env} {K : Value → Mem → Prop} {M : Mem} (hp : pureO o = true) (h : vQ P T o env K M) : vQ P T o env (fun v _ => K v M) emptyM := by
  cases o
  case move x => exact h
  case assign x => exact h
  case pick c a b => exact vR_mem (M' := emptyM) (r := pickR (ev env c) (ev env a) (ev env b)) h
  case extract x i => exact vR_mem (M' := emptyM) (r := extR (ev env x) i) h
  case binOp op t x y t' => exact vR_mem (M' := emptyM) (r := binR T op t (ev env x) (ev env y)) h
  case unOp op t x => exact vR_mem (M' := emptyM) (r := unR op (ev env x)) h
  case slice t x lo hi mx => exact vR_mem (M' := emptyM) (r := sliceR T t (ev env x) (lo.map (ev env)) (hi.map (ev env)) (mx.map (ev env))) h
  case field t x f => exact vR_mem (M' := emptyM) (r := fieldR T t (ev env x) f) h
  case indexAddr t x i => exact vR_mem (M' := emptyM) (r := idxAddrR T t (ev env x) (ev env i)) h
  case fieldAddr t x f => exact vR_mem (M' := emptyM) (r := fieldAddrR T t (ev env x) f) h
  case nilCheck x => exact vR_mem (M' := emptyM) (r := nilR (ev env x)) h
  case index t x i => exact vR_mem (M' := emptyM) (r := idxR T t (ev env x) (ev env i)) h
  case call c =>
    obtain ⟨callee, args, ts⟩ := c
    cases callee
    case builtin b =>
      cases b
      case min => exact vR_mem (M' := emptyM) (r := minR (args.toList.map (ev env))) h
      case max => exact vR_mem (M' := emptyM) (r := maxR (args.toList.map (ev env))) h
      case len =>
        obtain ⟨l⟩ := args
        obtain ⟨l'⟩ := ts
        rcases l with _ | ⟨x, _ | ⟨y, l⟩⟩ <;> rcases l' with _ | ⟨t, _ | ⟨t', l'⟩⟩ <;> first | exact vR_mem (M' := emptyM) (r := lenR T t (ev env x)) h | exact absurd hp (by simp [pureO])
      all_goals exact absurd hp (by simp [pureO])
    all_goals exact absurd hp (by simp [pureO])
  all_goals exact absurd hp (by simp [pureO])
theorem vQ_mem (hT : TabOk P T) (o : Oper) {K : Value → Mem → Prop} (h : vQ P T o.op env K M) : ∃ v, QuietOp P o.op env (memOf o M) v ∧ K v M := by
  unfold memOf
  by_cases hp : pureO o.op = true
  · rw [if_pos hp]
    exact vQ_is hT o.op (pure_vQ hp h)
  · rw [if_neg hp]
    exact vQ_is hT o.op h
/-- What an operation reads in the order of the proof is what it reads when it is done. -/
def Agree (r : List Oper) (env : Env) (pre : List Nat) (vals : Nat → Value) (i : Nat) (o : Oper) (c : Env) : Prop := ∀ t, t ∈ tmpsOf r o → (∃ j, j ∈ pre ∧ dstOf r j = some t ∧ waitB r i j = true ∧ c t = vals j) ∨ ((∀ j, dstOf r j = some t → j = i ∨ waitB r j i = true) ∧ c t = env t)
structure Sp (P : Program) (T : Tab) (r : List Oper) (nt : Nat) (Q : Exit → Env → Mem → Prop) (env : Env) (M0 : Mem) (w0 : World) (listed : Array Bool) (a : Act) (w : World) (pre hs : List Nat) (plan : Plan) (vals : Nat → Value) (c : Nat → Env) (cur e : Env) (M' : Mem) : Prop where
  size : listed.size = r.length
  closed : ∀ (j : Nat) (o : Oper), r[j]? = some o → listed.getD j false = true → ∀ x ∈ o.after, Region.binds .any x = true → listed.getD x.on false = true
  known : ∀ j, j < r.length → listed.getD j false = true → j ∈ pre
  fits : Fits nt e a
  rep : Rep M' w
  ext : Ext M0 w0 M' w
  curA : ∀ j t, j ∈ pre → dstOf r j = some t → cur t = vals j
  curB : ∀ t, (∀ j, j ∈ pre → dstOf r j ≠ some t) → cur t = env t
  light : ∀ i o, i ∈ pre → r[i]? = some o → listed.getD i false = false → LightAt P r o (c i) (memOf o M') (vals i) ∧ Agree r env pre vals i o (c i)
  ea : ∀ j t, dstOf r j = some t → listed.getD j false = true → e t = vals j
  eb : ∀ j t, dstOf r j = some t → listed.getD j false = false → e t = env t
  ec : ∀ t, (∀ j, dstOf r j ≠ some t) → e t = env t
  hv : ∀ j ∈ hs, j ∈ pre ∧ ∀ o, r[j]? = some o → listed.getD j false = true ∨ ¬ Want r o (c j)
  ok : okPln r none pre hs plan = true
  vc : vT P T r Q plan cur M'
theorem addB_spec {r : List Oper} {pre : List Nat} {i : Nat} (h : addB r pre i = true) : ∃ o, r[i]? = some o ∧ i ∉ pre ∧ ∀ t ∈ tmpsOf r o, okRead r pre i t = true := by
  unfold addB at h
  cases ho : r[i]? with
  | none => rw [ho] at h; cases h
  | some o =>
    rw [ho] at h
    simp only [Bool.and_eq_true, List.all_eq_true, Bool.not_eq_true', List.contains_eq_mem, decide_eq_false_iff_not] at h
    exact ⟨o, rfl, h.1, h.2⟩
/-- What the next operation reads in the proof. -/
theorem agree_new {r : List Oper} {env cur : Env} {pre : List Nat} {vals : Nat → Value} {i : Nat} {o : Oper} (h : ∀ t ∈ tmpsOf r o, okRead r pre i t = true) (hA : ∀ j t, j ∈ pre → dstOf r j = some t → cur t = vals j) (hB : ∀ t, (∀ j, j ∈ pre → dstOf r j ≠ some t) → cur t = env t) : Agree r env pre vals i o cur := by
  intro t ht
  have := h t ht
  unfold okRead at this
  rw [Bool.or_eq_true] at this
  rcases this with h1 | h1
  · obtain ⟨j, hj, h2⟩ := List.any_eq_true.1 h1
    rw [Bool.and_eq_true, beq_iff_eq] at h2
    exact .inl ⟨j, hj, h2.1, h2.2, hA j t hj h2.1⟩
  · rw [Bool.and_eq_true, List.all_eq_true, List.all_eq_true] at h1
    refine .inr ⟨fun j hj => ?_, hB t fun j hj => by simpa using h1.1 j hj⟩
    have hjl : j < r.length := by
      rcases Nat.lt_or_ge j r.length with h3 | h3
      · exact h3
      · unfold dstOf at hj; rw [List.getElem?_eq_none h3] at hj; cases hj
    have := h1.2 j (List.mem_range.2 hjl)
    simpa [hj] using this
theorem agree_more {r : List Oper} {env : Env} {pre : List Nat} {vals : Nat → Value} {i x : Nat} {o : Oper} {c : Env} {v : Value} (h : Agree r env pre vals i o c) (hx : x ∉ pre) : Agree r env (x :: pre) (fun j => if j = x then v else vals j) i o c := by
  intro t ht
  rcases h t ht with ⟨j, q0, q1, q2, q3⟩ | q
  · refine .inl ⟨j, List.mem_cons_of_mem _ q0, q1, q2, ?_⟩
    show c t = if j = x then v else vals j
    rw [if_neg (by rintro rfl; exact hx q0)]
    exact q3
  · exact .inr q
theorem tmps_op {r : List Oper} {o : Oper} {t : Tmp} (h : Operand.tmp t ∈ o.op.operands) : t ∈ tmpsOf r o := by
  unfold tmpsOf
  refine List.mem_append_right _ (List.mem_filterMap.2 ⟨.tmp t, by simpa using h, rfl⟩)
theorem tmps_guard {r : List Oper} {o : Oper} {t : Tmp} (h : guardTmp r o = some t) : t ∈ tmpsOf r o := by
  unfold tmpsOf
  rw [h]; simp
/-- One operation more is told of: e' tells what stands in the slots, M' what in the memory. -/
theorem sp_more {r : List Oper} {nt : Nat} (huniq : ∀ i j t, dstOf r i = some t → dstOf r j = some t → i = j) {M0 : Mem} {w0 : World} {listed : Array Bool} {a : Act} {w : World} {e : Env} {M' : Mem} {x : Nat} {o : Oper} {p plan : Plan} {pre hs hs' : List Nat} {vals : Nat → Value} {c : Nat → Env} {cur : Env} {v : Value}
    (h : Sp P T r nt Q env M0 w0 listed a w pre hs plan vals c cur e M') (ho : r[x]? = some o) (hx : x ∉ pre) (hrd : ∀ t ∈ tmpsOf r o, okRead r pre x t = true) (hhs : ∀ j ∈ hs', j ∈ hs ∨ (j = x ∧ ¬ Want r o cur)) (hok : okPln r none (x :: pre) hs' p = true) (hL : LightAt P r o cur (memOf o M') v) (hv : vT P T r Q p (put cur o.dst v) M') :
    Sp P T r nt Q env M0 w0 listed a w (x :: pre) hs' p (fun j => if j = x then v else vals j) (fun j => if j = x then cur else c j) (put cur o.dst v) e M' := by
  have hdo : dstOf r x = o.dst := by unfold dstOf; rw [ho]; rfl
  have hxl : x < r.length := (List.getElem?_eq_some_iff.1 ho).1
  have hnl : listed.getD x false = false := by
    cases hh : listed.getD x false with
    | false => rfl
    | true => exact absurd (h.known x hxl hh) hx
  have hag := agree_new hrd h.curA h.curB
  refine ⟨h.size, h.closed, fun j hjl hj => List.mem_cons_of_mem _ (h.known j hjl hj), h.fits, h.rep, h.ext, ?_, ?_, ?_, ?_, h.eb, h.ec, ?_, hok, hv⟩
  · intro j t hj hjt
    by_cases hjx : j = x
    · subst hjx
      rw [if_pos rfl]
      exact put_hit _ _ (by rw [← hdo]; exact hjt)
    · rw [if_neg hjx, put_miss _ _ (by rw [← hdo]; exact fun hh => hjx (huniq j x t hjt hh))]
      exact h.curA j t ((List.mem_cons.1 hj).resolve_left hjx) hjt
  · intro t ht
    rw [put_miss _ _ (by rw [← hdo]; exact ht x (List.mem_cons_self ..))]
    exact h.curB t fun j hj => ht j (List.mem_cons_of_mem _ hj)
  · intro i oi hi hoi hli
    by_cases hix : i = x
    · subst hix
      rw [ho] at hoi
      injection hoi with hoi
      subst hoi
      rw [if_pos rfl, if_pos rfl]
      exact ⟨hL, agree_more hag hx⟩
    · rw [if_neg hix, if_neg hix]
      have hip := (List.mem_cons.1 hi).resolve_left hix
      obtain ⟨h1, h2⟩ := h.light i oi hip hoi hli
      exact ⟨h1, agree_more h2 hx⟩
  · intro j t hj hlj
    by_cases hjx : j = x
    · subst hjx; rw [hnl] at hlj; cases hlj
    · rw [if_neg hjx]; exact h.ea j t hj hlj
  · intro j hj
    rcases hhs j hj with hj | ⟨rfl, hw⟩
    · obtain ⟨h1, h2⟩ := h.hv j hj
      have hjx : j ≠ x := by rintro rfl; exact hx h1
      simp only [if_neg hjx]
      exact ⟨List.mem_cons_of_mem _ h1, h2⟩
    · simp only [if_pos rfl]
      refine ⟨List.mem_cons_self .., fun o' ho' => .inr ?_⟩
      rw [ho] at ho'
      injection ho' with ho'
      subst ho'
      exact hw
/-- At the plan's head stands an operation that makes memory, or nothing. -/
def Ready (r : List Oper) (cur : Env) : Plan → Prop
  | .fin => True
  | .light _ _ => False
  | .one x _ _ => ∀ o, r[x]? = some o → Want r o cur
  | .alt _ _ _ _ => True
theorem advP_is (hT : TabOk P T) {r : List Oper} {nt : Nat} (huniq : ∀ i j t, dstOf r i = some t → dstOf r j = some t → i = j) {M0 : Mem} {w0 : World} {listed : Array Bool} {a : Act} {w : World} {e : Env} {M' : Mem} : ∀ (plan : Plan) (pre hs : List Nat) (vals : Nat → Value) (c : Nat → Env) (cur : Env),
    Sp P T r nt Q env M0 w0 listed a w pre hs plan vals c cur e M' → ∃ pre' hs' plan' vals' c' cur', Sp P T r nt Q env M0 w0 listed a w pre' hs' plan' vals' c' cur' e M' ∧ Ready r cur' plan'
  | .fin, pre, hs, vals, c, cur, h => ⟨pre, hs, .fin, vals, c, cur, h, trivial⟩
  | .alt x k p q, pre, hs, vals, c, cur, h => ⟨pre, hs, .alt x k p q, vals, c, cur, h, trivial⟩
  | .light x p, pre, hs, vals, c, cur, h => by
    have hok := h.ok
    unfold okPln at hok
    rw [Bool.and_eq_true] at hok
    obtain ⟨o, ho, hx, hrd⟩ := addB_spec hok.1
    have hv := h.vc
    unfold vT vStep at hv
    rw [ho] at hv
    dsimp only at hv
    have fin : ∀ v, LightAt P r o cur (memOf o M') v → vT P T r Q p (put cur o.dst v) M' → ∃ pre' hs' plan' vals' c' cur', Sp P T r nt Q env M0 w0 listed a w pre' hs' plan' vals' c' cur' e M' ∧ Ready r cur' plan' :=
      fun v h1 h2 => advP_is hT huniq p _ _ _ _ _ (sp_more huniq h ho hx hrd (fun j hj => .inl hj) hok.2 h1 h2)
    have run : Want r o cur → vQ P T o.op cur (Kt (vT P T r Q p) cur o.dst) M' → ∃ pre' hs' plan' vals' c' cur', Sp P T r nt Q env M0 w0 listed a w pre' hs' plan' vals' c' cur' e M' ∧ Ready r cur' plan' := by
      intro hw hq
      obtain ⟨v, hv, hr⟩ := vQ_mem hT o hq
      exact fin v (.inr ⟨hw, _, Sub.refl _, hv⟩) hr
    cases hg : o.guard with
    | none =>
      rw [hg] at hv
      exact run (fun j b hh => by rw [hg] at hh; cases hh) hv
    | some jb =>
      obtain ⟨j, b⟩ := jb
      rw [hg] at hv
      dsimp only at hv
      by_cases hy : yE r cur j = some b
      · refine run (fun j' b' hh => ?_) (hv.1 hy)
        rw [hg] at hh
        injection hh with hh
        injection hh with h3 h4
        subst h3; subst h4
        exact hy
      · exact fin undef (.inl ⟨fun hh => hy (hh j b hg), rfl⟩) (hv.2 hy)
  | .one x k p, pre, hs, vals, c, cur, h => by
    have hok := h.ok
    unfold okPln at hok
    simp only [Bool.and_eq_true] at hok
    obtain ⟨o, ho, hx, hrd⟩ := addB_spec hok.1
    by_cases hw : Want r o cur
    · exact ⟨pre, hs, .one x k p, vals, c, cur, h, fun o' ho' => by rw [ho] at ho'; injection ho' with ho'; subst ho'; exact hw⟩
    · have hv := h.vc
      unfold vT vStep at hv
      rw [ho] at hv
      dsimp only at hv
      cases hg : o.guard with
      | none => exact absurd (fun j b hh => by rw [hg] at hh; cases hh) hw
      | some jb =>
        obtain ⟨j, b⟩ := jb
        rw [hg] at hv
        dsimp only at hv
        have hy : yE r cur j ≠ some b := fun hy => hw fun j' b' hh => by
          rw [hg] at hh
          injection hh with hh
          injection hh with h3 h4
          subst h3; subst h4
          exact hy
        exact advP_is hT huniq p _ _ _ _ _ (sp_more huniq h ho hx hrd (fun j hj => (List.mem_cons.1 hj).symm.imp id fun e => ⟨e, hw⟩) hok.2.2.2.2.2 (.inl ⟨hw, rfl⟩) (hv.2 hy))
/-- An operation at the plan's head. -/
theorem head_is (hT : TabOk P T) {r : List Oper} {pre hs : List Nat} {cur : Env} {M' : Mem} {i : Nat} : ∀ (plan : Plan) (h : Option (List Nat)), okPln r h pre hs plan = true → vT P T r Q plan cur M' → Ready r cur plan → i ∈ plan.heads →
    ∃ o k p, r[i]? = some o ∧ i ∉ pre ∧ (∀ t ∈ tmpsOf r o, okRead r pre i t = true) ∧ Want r o cur ∧ (k = 2 → sinkP r pre hs i = true) ∧ okPln r none (i :: pre) (i :: hs) p = true ∧ OpTo P o.op cur M' (fun v M'' => (k ≠ 2 → Sub M' M'') ∧ vT P T r Q p (put cur o.dst v) M'') := by
  have step : ∀ {x k : Nat} {p : Plan} {o : Oper}, r[x]? = some o → Want r o cur → (1 ≤ k ∧ k ≤ 2) → vStep P T r k r[x]? (vT P T r Q p) cur M' → OpTo P o.op cur M' (fun v M'' => (k ≠ 2 → Sub M' M'') ∧ vT P T r Q p (put cur o.dst v) M'') := by
    intro x k p o ho hw hk hv
    unfold vStep at hv
    rw [ho] at hv
    dsimp only at hv
    have hv' : vK P T k o.op o.dst (vT P T r Q p) cur M' := by
      cases hg : o.guard with
      | none => rw [hg] at hv; exact hv
      | some jb =>
        obtain ⟨j, b⟩ := jb
        rw [hg] at hv
        exact hv.1 (hw j b hg)
    have : k = 1 ∨ k = 2 := by omega
    rcases this with rfl | rfl
    · exact opTo_mono (vOp_is T hT o.op hv') fun v M'' hq => ⟨fun _ => hq.1, hq.2⟩
    · exact opTo_mono (vOp_is T hT o.op hv') fun v M'' hq => ⟨fun hh => absurd rfl hh, hq⟩
  intro plan
  induction plan with
  | fin => intro h _ _ _ hi; cases hi
  | light x p ih => intro h _ _ hr; exact hr.elim
  | one x k p ih =>
    intro h hok hv hr hi
    unfold okPln at hok
    simp only [Bool.and_eq_true, Bool.or_eq_true, decide_eq_true_eq, bne_iff_ne] at hok
    obtain ⟨o, ho, hx, hrd⟩ := addB_spec hok.1
    have hix : i = x := by unfold Plan.heads at hi; simpa using hi
    subst hix
    refine ⟨o, k, p, ho, hx, hrd, hr o ho, fun hk => (hok.2.2.2.1).resolve_left (fun hh => hh hk), hok.2.2.2.2.2, ?_⟩
    unfold vT at hv
    exact step ho (hr o ho) hok.2.2.2.2.1 hv
  | alt x k p q ih1 ih2 =>
    intro h hok hv hr hi
    unfold okPln at hok
    simp only [Bool.and_eq_true, Bool.or_eq_true, decide_eq_true_eq, bne_iff_ne] at hok
    obtain ⟨o, ho, hx, hrd⟩ := addB_spec hok.1
    unfold vT at hv
    unfold Plan.heads at hi
    rcases List.mem_cons.1 hi with rfl | hi
    · have hbare : o.guard = none := by
        have := hok.2.2.1
        unfold bareB at this
        rw [ho] at this
        simpa using this
      have hw : Want r o cur := fun j b hh => by rw [hbare] at hh; cases hh
      exact ⟨o, k, p, ho, hx, hrd, hw, fun hk => (hok.2.2.2.1).resolve_left (fun hh => hh hk), hok.2.2.2.2.2.1, step ho hw hok.2.2.2.2.1 hv.1⟩
    · refine ih2 _ hok.2.2.2.2.2.2 hv.2 ?_ hi
      have hq := hok.2.2.2.2.2.2
      cases q with
      | fin => trivial
      | light y s => unfold okPln at hq; cases hq
      | one y k' s =>
        intro o' ho' j b hh
        unfold okPln at hq
        simp only [Bool.and_eq_true, Bool.or_eq_true] at hq
        have hb := hq.2.2.1
        rcases hb with hb | hb
        · cases hb
        · unfold bareB at hb
          rw [ho'] at hb
          simp only [Option.isNone_iff_eq_none] at hb
          rw [hb] at hh
          cases hh
      | alt y k' s t => trivial
theorem fut_is {r : List Oper} {pre hs : List Nat} {plan : Plan} {cur : Env} (hok : okPln r none pre hs plan = true) (hr : Ready r cur plan) : (plan = .fin ∧ ∀ i, i < r.length → i ∈ pre) ∨ (plan.heads ≠ [] ∧ futB r pre plan.heads = true) := by
  cases plan with
  | fin =>
    left
    unfold okPln at hok
    rw [List.all_eq_true] at hok
    exact ⟨rfl, fun i hi => by have := hok i (List.mem_range.2 hi); simpa using this⟩
  | light x p => exact hr.elim
  | one x k p =>
    right
    unfold okPln at hok
    simp only [Bool.and_eq_true] at hok
    exact ⟨by unfold Plan.heads; simp, hok.2.1⟩
  | alt x k p q =>
    right
    unfold okPln at hok
    simp only [Bool.and_eq_true] at hok
    exact ⟨by unfold Plan.heads; simp, hok.2.1⟩
theorem head_in {r : List Oper} {pre hs : List Nat} {plan : Plan} : ∀ {h : Option (List Nat)}, okPln r h pre hs plan = true → plan.heads ≠ [] → ∃ x, x ∉ pre ∧ x < r.length := by
  intro h hok hh
  cases plan with
  | fin => exact absurd rfl hh
  | light x p => exact absurd rfl hh
  | one x k p =>
    unfold okPln at hok
    simp only [Bool.and_eq_true] at hok
    obtain ⟨o, ho, hx, _⟩ := addB_spec hok.1
    exact ⟨x, hx, (List.getElem?_eq_some_iff.1 ho).1⟩
  | alt x k p q =>
    unfold okPln at hok
    simp only [Bool.and_eq_true] at hok
    obtain ⟨o, ho, hx, _⟩ := addB_spec hok.1
    exact ⟨x, hx, (List.getElem?_eq_some_iff.1 ho).1⟩
theorem anyP_is (hT : TabOk P T) {r : List Oper} {nt : Nat} (hsel0 : Region.noSelect r.toArray = true) (huniq : ∀ i j t, dstOf r i = some t → dstOf r j = some t → i = j) (back : ∀ (i : Nat) (o : Oper), r[i]? = some o → ∀ e ∈ o.after, Region.binds .any e = true → e.on < i) (hd : r.all (dstIn nt) = true) (M0 : Mem) (w0 : World) :
    ∀ (fuel : Nat) (listed : Array Bool) (a : Act) (w : World) (pre hs : List Nat) (plan : Plan) (vals : Nat → Value) (c : Nat → Env) (cur e : Env) (M' : Mem), left listed = fuel → Sp P T r nt Q env M0 w0 listed a w pre hs plan vals c cur e M' → wpAny P .any r.toArray (Way nt M0 w0 Q) fuel listed a w := by
  have dof : ∀ (i : Nat) (o : Oper), r[i]? = some o → dstOf r i = o.dst := by intro i o h; unfold dstOf; rw [h]; rfl
  have dlt : ∀ j t, dstOf r j = some t → j < r.length := by
    intro j t h
    rcases Nat.lt_or_ge j r.length with h1 | h1
    · exact h1
    · unfold dstOf at h; rw [List.getElem?_eq_none h1] at h; cases h
  have waits : ∀ (i j : Nat) (o : Oper), r[i]? = some o → waitB r i j = true → ∃ x ∈ o.after, Region.binds .any x = true ∧ x.on = j := by
    intro i j o ho h
    obtain ⟨oj, h1, x, h2, h3, h4⟩ := Region.waitsFor_spec h
    rw [List.getElem?_toArray, ho] at h1
    injection h1 with h1
    subst h1
    exact ⟨x, h2, h3, h4⟩
  have fin : ∀ {listed : Array Bool} {a : Act} {w : World} {pre hs : List Nat} {plan : Plan} {vals : Nat → Value} {c : Nat → Env} {cur e : Env} {M' : Mem}, Sp P T r nt Q env M0 w0 listed a w pre hs plan vals c cur e M' → (∀ j, j < r.length → listed.getD j false = true) → Way nt M0 w0 Q .normal a w := by
    intro listed a w pre hs plan vals c cur e M' h all
    obtain ⟨pre, hs, plan, vals, c, cur, h, hr⟩ := advP_is hT huniq plan pre hs vals c cur h
    rcases fut_is h.ok hr with ⟨rfl, hpre⟩ | ⟨hne, _⟩
    · have hQ : Q .normal cur M' := h.vc
      have he : e = cur := by
        funext t
        by_cases hw : ∃ j, dstOf r j = some t
        · obtain ⟨j, hj⟩ := hw
          rw [h.ea j t hj (all j (dlt j t hj)), h.curA j t (hpre j (dlt j t hj)) hj]
        · have hno : ∀ j, dstOf r j ≠ some t := fun j hh => hw ⟨j, hh⟩
          rw [h.ec t hno, h.curB t fun j _ => hno j]
      exact ⟨cur, M', he ▸ h.fits, h.rep, h.ext, hQ⟩
    · exfalso
      obtain ⟨x, hx, hxl⟩ := head_in h.ok hne
      exact hx (h.known x hxl (all x hxl))
  intro fuel
  induction fuel with
  | zero =>
    intro listed a w pre hs plan vals c cur e M' hf h
    have allO : ∀ j, j < r.length → listed.getD j false = true := by
      intro j hj
      have h0 : listed.toList.count false = 0 := hf
      rw [List.count_eq_zero] at h0
      have hsz := h.size
      rw [Array.getD_eq_getD_getElem?, Array.getElem?_eq_getElem (by omega)]
      simp only [Option.getD_some]
      cases hb : listed[j] with
      | true => rfl
      | false => exact absurd (by rw [← hb]; exact Array.mem_toList_iff.2 (Array.getElem_mem _)) h0
    have hready : Region.ready .any r.toArray listed = [] := by
      rw [List.eq_nil_iff_forall_not_mem]
      intro i hi
      obtain ⟨h1, o, h2, _⟩ := mem_ready.1 hi
      have := allO i (by rw [List.getElem?_toArray] at h2; exact (List.getElem?_eq_some_iff.1 h2).1)
      rw [(getD_of h1).1] at this
      cases this
    exact ⟨hready, fin h allO⟩
  | succ fuel ih =>
    intro listed a w pre hs plan vals c cur e M' hf h
    refine ⟨fun hr => ?_, fun i hi => ?_⟩
    · have allO : ∀ j, j < r.length → listed.getD j false = true := by
        intro j
        induction j using Nat.strongRecOn with
        | _ j ihj =>
          intro hj
          cases hb : listed.getD j false with
          | true => rfl
          | false =>
            exfalso
            have hsz := h.size
            have : j ∈ Region.ready .any r.toArray listed := by
              refine mem_ready.2 ⟨?_, r[j], by simp [hj], ?_⟩
              · rw [Array.getD_eq_getD_getElem?, Array.getElem?_eq_getElem (by omega)] at hb ⊢
                exact hb
              · intro x hx hbx
                have hlt := back j r[j] (List.getElem?_eq_getElem hj) x hx hbx
                exact ihj x.on hlt (by omega)
            rw [hr] at this
            cases this
      exact fin h allO
    · obtain ⟨pre, hs, plan, vals, c, cur, h, hrdy⟩ := advP_is hT huniq plan pre hs vals c cur h
      obtain ⟨h1, o, h2, h3⟩ := mem_ready.1 hi
      rw [List.getElem?_toArray] at h2
      obtain ⟨hu, hul⟩ := getD_of h1
      have hil : i < r.length := (List.getElem?_eq_some_iff.1 h2).1
      have hsz := h.size
      have hdo := List.all_eq_true.1 hd o (List.mem_of_getElem? h2)
      have hsel : ∀ cs b, o.op ≠ .select cs b := fun cs b => Region.noSelect_spec hsel0 _ o cs b (by rw [List.getElem?_toArray]; exact h2)
      have hleft : left (listed.setIfInBounds i true) = fuel := by
        unfold left at *
        rw [Array.toList_setIfInBounds]
        have := left_set listed.toList _ hul
        omega
      have hset : ∀ j, (listed.setIfInBounds i true).getD j false = if j = i then true else listed.getD j false := fun j => getD_set' (by omega)
      have hclosed : ∀ (j : Nat) (o' : Oper), r[j]? = some o' → (listed.setIfInBounds i true).getD j false = true → ∀ x ∈ o'.after, Region.binds .any x = true → (listed.setIfInBounds i true).getD x.on false = true := by
        intro j o' ho' hj x hx hb
        rw [hset] at hj ⊢
        split
        · rfl
        · by_cases hji : j = i
          · subst hji
            rw [h2] at ho'
            injection ho' with ho'
            subst ho'
            exact h3 x hx hb
          · rw [if_neg hji] at hj
            exact h.closed j o' ho' hj x hx hb
      have hdi := dof i o h2
      -- what is waited for is done; what waits is not
      have done : ∀ j, waitB r i j = true → listed.getD j false = true := by
        intro j hj
        obtain ⟨x, k1, k2, k3⟩ := waits i j o h2 hj
        have := h3 x k1 k2
        rw [k3] at this
        exact this
      have undone : ∀ j o', r[j]? = some o' → waitB r j i = true → listed.getD j false = false := by
        intro j o' ho' hj
        cases hb : listed.getD j false with
        | false => rfl
        | true =>
          obtain ⟨x, k1, k2, k3⟩ := waits j i o' ho' hj
          have := h.closed j o' ho' hb x k1 k2
          rw [k3, hu] at this
          cases this
      have same : ∀ {ci : Env}, Agree r env pre vals i o ci → ∀ t ∈ tmpsOf r o, e t = ci t := by
        intro ci hA t ht
        rcases hA t ht with ⟨j, q0, q1, q2, q3⟩ | ⟨q1, q2⟩
        · rw [h.ea j t q1 (done j q2), q3]
        · rw [q2]
          by_cases hw : ∃ j, dstOf r j = some t
          · obtain ⟨j, hj⟩ := hw
            refine h.eb j t hj ?_
            rcases q1 j hj with rfl | hji
            · exact hu
            · exact undone j _ (List.getElem?_eq_getElem (dlt j t hj)) hji
          · exact h.ec t fun j hh => hw ⟨j, hh⟩
      have ops : ∀ {ci : Env}, Agree r env pre vals i o ci → ∀ x ∈ o.op.operands, ev e x = ev ci x := by
        intro ci hA x hx
        cases x with
        | const v => rfl
        | global g => rfl
        | func f => rfl
        | tmp t => exact same hA t (tmps_op hx)
      have wnt : ∀ {ci : Env}, Agree r env pre vals i o ci → (Want r o e ↔ Want r o ci) := fun hA => want_congr fun t ht => same hA t (tmps_guard ht)
      unfold wpOp
      rw [List.getElem?_toArray, h2]
      dsimp only
      by_cases hin : i ∈ pre
      · -- an operation that is told of
        obtain ⟨hL, hA⟩ := h.light i o hin h2 hu
        have hnext : ∀ w', Rep M' w' → Ext M' w M' w' → wpAny P .any r.toArray (Way nt M0 w0 Q) fuel (listed.setIfInBounds i true) (a.put o.dst (vals i)) w' := by
          intro w' hr' he'
          refine ih _ _ _ pre hs plan vals c cur (put e o.dst (vals i)) M' hleft ⟨by simp [hsz], hclosed, ?_, h.fits.put (dstIn_spec hdo) _, hr', h.ext.trans he', h.curA, h.curB, ?_, ?_, ?_, ?_, ?_, h.ok, h.vc⟩
          · intro j hj hlj
            rw [hset] at hlj
            by_cases hji : j = i
            · rw [hji]; exact hin
            · rw [if_neg hji] at hlj; exact h.known j hj hlj
          · intro j o' hj ho' hlj
            rw [hset] at hlj
            by_cases hji : j = i
            · rw [if_pos hji] at hlj; cases hlj
            · rw [if_neg hji] at hlj; exact h.light j o' hj ho' hlj
          · intro j t hj hlj
            rw [hset] at hlj
            by_cases hji : j = i
            · subst hji; exact put_hit _ _ (by rw [← hdi]; exact hj)
            · rw [if_neg hji] at hlj
              rw [put_miss _ _ (by rw [← hdi]; exact fun hh => hji (huniq j i t hj hh))]
              exact h.ea j t hj hlj
          · intro j t hj hlj
            rw [hset] at hlj
            by_cases hji : j = i
            · rw [if_pos hji] at hlj; cases hlj
            · rw [if_neg hji] at hlj
              rw [put_miss _ _ (by rw [← hdi]; exact fun hh => hji (huniq j i t hj hh))]
              exact h.eb j t hj hlj
          · intro t ht
            rw [put_miss _ _ (by rw [← hdi]; exact ht i)]
            exact h.ec t ht
          · intro j hj
            obtain ⟨q1, q2⟩ := h.hv j hj
            refine ⟨q1, fun o' ho' => ?_⟩
            rw [hset]
            split
            · exact .inl rfl
            · exact q2 o' ho'
        rcases hL with ⟨hw, hv⟩ | ⟨hw, M1, hsub0, q2⟩
        · rw [if_neg (by rw [want_is h.fits, wnt hA]; exact hw), ← hv]
          exact hnext w h.rep (Ext.refl _ _)
        · have hsub := hsub0.trans (memOf_sub o M')
          rw [if_pos (by rw [want_is h.fits, wnt hA]; exact hw)]
          refine Or.inl ?_
          unfold Oper.wp
          have hex : execOp a.eval o = execOp (ev (c i)) o := by rw [h.fits.ev]; exact execOp_congr o hsel (ops hA)
          rw [hex]
          rcases q2 w o (h.rep.sub hsub) rfl with hr | ⟨f, args, hr, hcall⟩
          · rw [hr]
            exact hnext w h.rep (Ext.refl _ _)
          · rw [hr]
            refine hcall.mono ?_
            rintro e' w' ⟨rfl, k1, k2⟩
            exact hnext w' (rep_frame h.rep hsub k1 k2) ⟨k2.os, k2.tape, k2.output, k2.size, fun b hb ho => k2.block b hb (fun hh => ho (owns_sub hsub hh)), fun b hb => .inl hb⟩
      · -- an operation at the head
        have hhead : i ∈ plan.heads := by
          rcases fut_is h.ok hrdy with ⟨_, hpre⟩ | ⟨_, hfut⟩
          · exact absurd (hpre i hil) hin
          · unfold futB at hfut
            have := List.all_eq_true.1 hfut i (List.mem_range.2 hil)
            simp only [Bool.or_eq_true, List.contains_eq_mem, decide_eq_true_eq, List.any_eq_true, Bool.and_eq_true, Bool.not_eq_true', decide_eq_false_iff_not] at this
            rcases this with hh | hh | ⟨j, hj, hjp, hjw⟩
            · exact absurd hh hin
            · exact hh
            · exact absurd (h.known j (List.mem_range.1 hj) (done j hjw)) hjp
        obtain ⟨o', k, p, ho', hx, hrd, hw, hsk, hok, hO⟩ := head_is hT plan none h.ok h.vc hrdy hhead
        rw [h2] at ho'
        injection ho' with ho'
        subst ho'
        have hA : Agree r env pre vals i o cur := agree_new hrd h.curA h.curB
        rw [if_pos (by rw [want_is h.fits, wnt hA]; exact hw)]
        refine Or.inl ?_
        unfold Oper.wp
        refine opTo_at (nt := nt) (c := cur) (e := e) hsel hdo hO h.fits (fun x hxx => (ops hA x hxx).symm) ?_ h.rep _ _ ?_
        · intro t ht
          have hno : ∀ j, dstOf r j ≠ some t := fun j hh => by
            have hjl := dlt j t hh
            have := dstIn_spec (List.all_eq_true.1 hd r[j] (List.getElem_mem hjl)) t (by rw [← dof j r[j] (List.getElem?_eq_getElem hjl)]; exact hh)
            exact absurd this (Nat.not_lt.2 ht)
          rw [h.curB t fun j _ => hno j, ← h.ec t hno]
          have := congrFun h.fits.ev (.tmp t)
          simp only [Act.eval, ev] at this
          rw [← this, Array.getD_eq_getD_getElem?, Array.getElem?_eq_none (by rw [h.fits.size]; exact ht)]
          rfl
        · intro v M'' w' k1 k2 k3
          obtain ⟨k3, k4⟩ := k3
          have hsinks : k = 2 → ∀ j, j ∈ pre → j < r.length → pureAt r j = false → listed.getD j false = true := by
            intro h22
            have hs := hsk h22
            unfold sinkP at hs
            have key : ∀ d j, r.length - j = d → j ∈ pre → j < r.length → pureAt r j = false → listed.getD j false = true := by
              intro d
              induction d using Nat.strongRecOn with
              | _ d ihd =>
                intro j hd' hj hjl hjp
                have hsj := List.all_eq_true.1 hs j hj
                rw [hjp, Bool.false_or, Bool.or_eq_true, Bool.and_eq_true] at hsj
                rcases hsj with ⟨hsj, hbare⟩ | hsj
                · have hjr := List.getElem?_eq_getElem hjl
                  rcases (h.hv j (by simpa using hsj)).2 _ hjr with q | q
                  · exact q
                  · exfalso
                    apply q
                    intro j2 b2 hg
                    unfold bareB at hbare
                    rw [hjr] at hbare
                    simp only [Option.isNone_iff_eq_none] at hbare
                    rw [hbare] at hg
                    cases hg
                obtain ⟨j', r1, r2⟩ := List.any_eq_true.1 hsj
                rw [Bool.and_eq_true, Bool.or_eq_true, beq_iff_eq] at r2
                obtain ⟨r3, r2⟩ := r2
                by_cases hji' : j' = i
                · rw [hji'] at r2; exact done j r2
                · have r1 := (List.mem_cons.1 r1).resolve_left hji'
                  have r3 : pureAt r j' = false := by simpa using r3.resolve_left hji'
                  have hj'l : j' < r.length := by
                    obtain ⟨oj, q1, _⟩ := Region.waitsFor_spec r2
                    rw [List.getElem?_toArray] at q1
                    exact (List.getElem?_eq_some_iff.1 q1).1
                  have hj' := List.getElem?_eq_getElem hj'l
                  obtain ⟨x, k1, k2, k3⟩ := waits j' j _ hj' r2
                  have hlt := back j' _ hj' x k1 k2
                  rw [k3] at hlt
                  have hlj := ihd (r.length - j') (by omega) j' rfl r1 hj'l r3
                  have := h.closed j' _ hj' hlj x k1 k2
                  rw [k3] at this
                  exact this
            exact fun j hj hjl hjp => key _ j rfl hj hjl hjp
          refine ih _ _ _ (i :: pre) (i :: hs) p (fun j => if j = i then v else vals j) c (put cur o.dst v) (put e o.dst v) M'' hleft ⟨by simp [hsz], hclosed, ?_, h.fits.put (dstIn_spec hdo) _, k1, h.ext.trans k2, ?_, ?_, ?_, ?_, ?_, ?_, ?_, hok, k4⟩
          · intro j hj hlj
            rw [hset] at hlj
            by_cases hji : j = i
            · rw [hji]; exact List.mem_cons_self ..
            · rw [if_neg hji] at hlj; exact List.mem_cons_of_mem _ (h.known j hj hlj)
          · intro j t hj hjt
            by_cases hji : j = i
            · subst hji
              rw [if_pos rfl]
              exact put_hit _ _ (by rw [← hdi]; exact hjt)
            · rw [if_neg hji, put_miss _ _ (by rw [← hdi]; exact fun hh => hji (huniq j i t hjt hh))]
              exact h.curA j t ((List.mem_cons.1 hj).resolve_left hji) hjt
          · intro t ht
            rw [put_miss _ _ (by rw [← hdi]; exact ht i (List.mem_cons_self ..))]
            exact h.curB t fun j hj => ht j (List.mem_cons_of_mem _ hj)
          · intro j o' hj ho' hlj
            rw [hset] at hlj
            by_cases hji : j = i
            · rw [if_pos hji] at hlj; cases hlj
            · rw [if_neg hji] at hlj
              have hjp := (List.mem_cons.1 hj).resolve_left hji
              obtain ⟨hL, hAg⟩ := h.light j o' hjp ho' hlj
              rw [if_neg hji]
              refine ⟨?_, agree_more hAg hx⟩
              rcases hL with hq | ⟨hq, M1, hB, hC⟩
              · exact .inl hq
              · refine .inr ⟨hq, M1, ?_, hC⟩
                unfold memOf at hB ⊢
                by_cases hpo : pureO o'.op = true
                · rw [if_pos hpo] at hB ⊢
                  exact hB
                · rw [if_neg hpo] at hB ⊢
                  refine hB.trans (k3 fun h22 => ?_)
                  rw [hsinks h22 j hjp (List.getElem?_eq_some_iff.1 ho').1 (by unfold pureAt; rw [ho']; simpa using hpo)] at hlj
                  cases hlj
          · intro j t hj hlj
            rw [hset] at hlj
            by_cases hji : j = i
            · subst hji
              rw [if_pos rfl]
              exact put_hit _ _ (by rw [← hdi]; exact hj)
            · rw [if_neg hji] at hlj
              rw [if_neg hji, put_miss _ _ (by rw [← hdi]; exact fun hh => hji (huniq j i t hj hh))]
              exact h.ea j t hj hlj
          · intro j t hj hlj
            rw [hset] at hlj
            by_cases hji : j = i
            · rw [if_pos hji] at hlj; cases hlj
            · rw [if_neg hji] at hlj
              rw [put_miss _ _ (by rw [← hdi]; exact fun hh => hji (huniq j i t hj hh))]
              exact h.eb j t hj hlj
          · intro t ht
            rw [put_miss _ _ (by rw [← hdi]; exact ht i)]
            exact h.ec t ht
          · intro j hj
            by_cases hji : j = i
            · refine ⟨by rw [hji]; exact List.mem_cons_self .., fun o' _ => .inl ?_⟩
              rw [hset, if_pos hji]
            · obtain ⟨q1, q2⟩ := h.hv j ((List.mem_cons.1 hj).resolve_left hji)
              refine ⟨List.mem_cons_of_mem _ q1, fun o' ho' => ?_⟩
              rw [hset, if_neg hji]
              exact q2 o' ho'
/-- A region that draws its order, by a plan. -/
theorem plays (p : Plan) (hT : TabOk P T) {nt id : Nat} {r : List Oper} (hm : P.follows .mixedOrders = true) (hB : okAll r p = true) (hd : r.all (dstIn nt) = true) (h : vT P T r Q p env M) : CodeTo P nt (.region id r.toArray true) Q env M := by
  intro M0 w0 a w h1 h2 h3
  unfold okAll at hB
  simp only [Bool.and_eq_true, List.all_eq_true, List.mem_range] at hB
  obtain ⟨hsel, hap, hbk, hok⟩ := hB
  have dlt : ∀ j t, dstOf r j = some t → j < r.length := by
    intro j t h
    rcases Nat.lt_or_ge j r.length with h1 | h1
    · exact h1
    · unfold dstOf at h; rw [List.getElem?_eq_none h1] at h; cases h
  refine wp_region_any hm ?_
  refine anyP_is (env := env) hT hsel ?_ ?_ hd M0 w0 _ _ _ _ [] [] p (fun _ => undef) (fun _ => env) env env M (by simp [left_new]) ⟨by simp, ?_, ?_, h1, fun b B hB' => Blk.holds_of (w := w) rfl (h2 b B hB'), ⟨h3.os, h3.tape, h3.output, h3.size, h3.block, h3.own⟩, ?_, ?_, ?_, ?_, ?_, ?_, (fun j hj => by cases hj), hok, h⟩
  · intro i j t hi hj
    have := hap i (dlt i t hi) j (dlt j t hj)
    unfold apartB at this
    rw [hi, hj] at this
    by_cases hh : i = j
    · exact hh
    · simp [hh] at this
  · intro i o ho e he hb
    have := hbk i (List.getElem?_eq_some_iff.1 ho).1
    unfold backB at this
    rw [ho] at this
    have := Array.all_eq_true'.1 this e he
    simpa [hb] using this
  · intro j o ho hj
    rw [new_false] at hj
    cases hj
  · intro j _ hlj
    rw [new_false] at hlj
    cases hlj
  · intro j t hj; cases hj
  · intro t _; rfl
  · intro i o hi; cases hi
  · intro j t _ hlj
    rw [new_false] at hlj
    cases hlj
  · intro j t _ _; rfl
  · intro t _; rfl
end
section
variable {P : Program} {T : Tab} {env : Env} {M : Mem} {Q : Exit → Env → Mem → Prop} {r l : List Oper} {p q : Plan}
@[simp] theorem lights_nil : lights [] p = p := nr rfl
@[simp] theorem lights_cons {i : Nat} {l : List Nat} : lights (i :: l) p = .light i (lights l p) := nr rfl
@[simp] theorem vT_fin : vT P T r Q .fin env M = Q .normal env M := nr rfl
@[simp] theorem vT_light {i : Nat} : vT P T r Q (.light i p) env M = vStep P T r 0 r[i]? (vT P T r Q p) env M := nr rfl
@[simp] theorem vT_one {x k : Nat} : vT P T r Q (.one x k p) env M = vStep P T r k r[x]? (vT P T r Q p) env M := nr rfl
theorem vT_alt {x k : Nat} : vT P T r Q (.alt x k p q) env M = (vStep P T r k r[x]? (vT P T r Q p) env M ∧ vT P T r Q q env M) := nr rfl
@[simp] theorem vStep_plain {d : Option Tmp} {o : Op} {ty : TypeId} {pos : String} {af : Array Edge} {k : Nat} {rest : Env → Mem → Prop} : vStep P T r k (some ⟨d, o, ty, pos, af, none⟩) rest env M = vK P T k o d rest env M := nr rfl
@[simp] theorem vStep_guard {d : Option Tmp} {o : Op} {ty : TypeId} {pos : String} {af : Array Edge} {j k : Nat} {b : Bool} {rest : Env → Mem → Prop} : vStep P T r k (some ⟨d, o, ty, pos, af, some (j, b)⟩) rest env M = vGd (yE r env j) b (vK P T k o d rest) (gB d rest) env M := nr rfl
end
end Go.Proofs.YthpcojnpiggaiaaGreat
