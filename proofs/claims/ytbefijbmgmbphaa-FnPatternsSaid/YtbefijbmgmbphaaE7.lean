/- The calculus, continued: regions that draw their order and make memory behind their readings. -/
import Derived.Test.YtbefijbmgmbphaaE5
import Derived.StillTail
namespace Go.Proofs.Ytbefijbmgmbphaa
open Go
set_option linter.unusedSimpArgs false
set_option linter.unusedVariables false

def keepQ (M0 : Mem) (rest : Env → Mem → Prop) : Env → Mem → Prop := fun env M => Sub M0 M ∧ rest env M
/-- The operations behind the readings, in their order; each keeps what was told at the region's head. -/
def vRs (P : Program) (T : Tab) (M0 : Mem) (Q : Exit → Env → Mem → Prop) : Nat → List Oper → Env → Mem → Prop
  | _, [], env, M => Q .normal env M
  | 0, o :: rest, env, M => vOp P T o.op env (Kt (vRs P T M0 Q 0 rest) env o.dst) M
  | f + 1, o :: rest, env, M => vOp P T o.op env (Kt (keepQ M0 (vRs P T M0 Q f rest)) env o.dst) M
/-- The first n operations are readings. -/
def vLs (P : Program) (T : Tab) (Q : Exit → Env → Mem → Prop) (f : Nat) : Nat → List Oper → Env → Mem → Prop
  | 0, l, env, M => vRs P T M Q f l env M
  | _ + 1, [], _, _ => False
  | n + 1, o :: l, env, M => vQ P T o.op env (Kt (vLs P T Q f n l) env o.dst) M
/-- A place in the order of the proof, as a place in the region. -/
def pl (pm : List Nat) (j : Nat) : Nat := pm.getD j 0
def dstOf (l : List Oper) (j : Nat) : Option Tmp := (l[j]?).bind (·.dst)
def isTmp (t : Tmp) : Operand → Bool
  | .tmp u => u == t
  | _ => false
def readsB (l : List Oper) (i : Nat) (t : Tmp) : Bool := match l[i]? with
  | some o => o.op.operands.toList.any (isTmp t)
  | none => false
def apartB (l : List Oper) (i j : Nat) : Bool := i == j || (match dstOf l i, dstOf l j with
  | some a, some b => a != b
  | _, _ => true)
def orderB (r l : List Oper) (pm : List Nat) (i j : Nat) : Bool := i == j || (match dstOf l j with
  | some t => !readsB l i t || (decide (j < i) && Region.waitsFor .any r.toArray (pl pm i) (pl pm j)) || (decide (i < j) && Region.waitsFor .any r.toArray (pl pm j) (pl pm i))
  | none => true)
def backB (l : List Oper) (i : Nat) : Bool := match l[i]? with
  | some o => o.after.all fun e => !Region.binds .any e || decide (e.on < i)
  | none => true
def sinkB (r : List Oper) (pm : List Nat) (n f j : Nat) : Bool := (List.range (n + f + 1)).any fun i => decide (j < i) && Region.waitsFor .any r.toArray (pl pm i) (pl pm j)
def placeB (r : List Oper) (pm : List Nat) : Bool := pm.length == r.length && (pm.all (fun i => decide (i < r.length)) && ((List.range r.length).all (fun i => (List.range r.length).all fun j => i == j || pl pm i != pl pm j) && (List.range r.length).all fun i => (List.range r.length).any fun q => pl pm q == i))
/-- The operations in the order of the proof. -/
def pickL (r : List Oper) : List Nat → List Oper
  | [] => []
  | i :: pm => match r[i]? with
    | some o => o :: pickL r pm
    | none => pickL r pm
def consP : Option Oper → List Oper → List Oper
  | some o, l => o :: l
  | none, l => l
def okB (r : List Oper) (pm : List Nat) (l : List Oper) (n f : Nat) : Bool :=
  placeB r pm && (((List.range n).all fun j => sinkB r pm n f j) && (decide (n + f < l.length) && (
  r.all (fun o => o.guard.isNone) && (Region.noSelect r.toArray && (decide (n ≤ l.length) && (((List.range l.length).all fun i => (List.range l.length).all fun j => apartB l i j && orderB r l pm i j) &&
    (((List.range l.length).all fun i => decide (i ≤ n) || Region.waitsFor .any r.toArray (pl pm i) (pl pm (i - 1))) && ((List.range r.length).all fun i => backB r i))))))))
section
variable {P : Program} {T : Tab} {env : Env} {M : Mem} {Q : Exit → Env → Mem → Prop}
theorem lights_is (hT : TabOk P T) (f : Nat) : ∀ (n : Nat) (l : List Oper) (env : Env), vLs P T Q f n l env M → ∃ (vals : Nat → Value) (c : Nat → Env), c 0 = env ∧
    (∀ i, i < n → ∃ o, l[i]? = some o ∧ QuietOp P o.op (c i) M (vals i) ∧ c (i + 1) = put (c i) o.dst (vals i)) ∧ vRs P T M Q f (l.drop n) (c n) M
  | 0, l, env, h => ⟨fun _ => undef, fun _ => env, rfl, fun i hi => absurd hi (Nat.not_lt_zero i), h⟩
  | n + 1, [], env, h => h.elim
  | n + 1, o :: l, env, h => by
    obtain ⟨v, hv, hk⟩ := vQ_is hT o.op h
    obtain ⟨vals, c, h0, h1, h2⟩ := lights_is hT f n l _ hk
    refine ⟨fun i => match i with | 0 => v | i + 1 => vals i, fun i => match i with | 0 => env | i + 1 => c i, rfl, ?_, h2⟩
    intro i hi
    match i with
    | 0 => exact ⟨o, rfl, hv, h0⟩
    | i + 1 =>
      obtain ⟨o', k1, k2, k3⟩ := h1 i (by omega)
      exact ⟨o', k1, k2, k3⟩
theorem opTo_mono {o : Op} {K K' : Value → Mem → Prop} (h : OpTo P o env M K) (hk : ∀ v M', K v M' → K' v M') : OpTo P o env M K' :=
  fun o' a w next Q e1 e2 hw hn => h o' a w next Q e1 e2 hw fun v M' w' q1 q2 q3 => hn v M' w' q1 q2 (hk v M' q3)
theorem opTo_at {o : Oper} {nt : Nat} {c e : Env} {a : Act} {w : World} {K : Value → Mem → Prop} (hs : ∀ cs b, o.op ≠ .select cs b) (hd : dstIn nt o = true) (h : OpTo P o.op c M K) (hf : Fits nt e a)
    (hx : ∀ x ∈ o.op.operands, ev c x = ev e x) (hc : ∀ t, nt ≤ t → c t = undef) (hw : Rep M w) (next : Act → World → Prop) (Q : Exit → Act → World → Prop)
    (hn : ∀ v M' w', Rep M' w' → Ext M w M' w' → K v M' → next (a.put o.dst v) w') : o.upon P a next Q ((execOp a.eval o).run P w) := by
  obtain ⟨a2, ha2, hsz⟩ : ∃ a2 : Act, a2.eval = ev c ∧ a2.tmps.size = nt := by
    refine ⟨{ tmps := Array.ofFn (n := nt) fun i => c i, defers := [] }, ?_, by simp⟩
    funext x
    cases x with
    | tmp t =>
      simp only [Act.eval, ev, Array.getD_eq_getD_getElem?]
      by_cases ht : t < nt
      · rw [Array.getElem?_eq_getElem (by simpa using ht)]; simp
      · rw [Array.getElem?_eq_none (by simpa using ht), hc t (Nat.le_of_not_lt ht)]; rfl
    | const v => rfl
    | global g => rfl
    | func f => rfl
  have hr : execOp a.eval o = execOp a2.eval o := by
    rw [hf.ev, ha2]
    exact (execOp_congr o hs hx).symm
  rw [hr]
  have key : ∀ v w', (∃ v2, a2.put o.dst v = a2.put o.dst v2 ∧ next (a.put o.dst v2) w') → next (a.put o.dst v) w' := by
    rintro v w' ⟨v2, e1, e2⟩
    cases hdst : o.dst with
    | none => rw [hdst] at e2; exact e2
    | some d =>
      rw [hdst] at e1 e2
      have hlt := dstIn_spec hd d hdst
      have : v = v2 := by
        have := congrArg (fun b : Act => b.tmps[d]?) e1
        simpa [Act.put, hsz, hlt] using this
      rw [this]; exact e2
  have h2 := h o a2 w (fun b w' => ∃ v2, b = a2.put o.dst v2 ∧ next (a.put o.dst v2) w') (fun _ _ _ => False) rfl ha2 hw (fun v M' w' k1 k2 k3 => ⟨v, rfl, hn v M' w' k1 k2 k3⟩)
  generalize (execOp a2.eval o).run P w = r at h2 ⊢
  cases r with
  | ok n w' =>
    cases n <;> simp only [Oper.upon] at h2 ⊢
    case value v => exact key v w' h2
    case skip => exact key _ w' h2
    case enter f args =>
      refine h2.mono fun e w'' he => ?_
      cases e with
      | returned v => exact key v w'' he
      | panicked c => exact he.elim
      | outgrown => obtain ⟨_, _, hh⟩ := he; exact hh.elim
    case row r args => exact Rows.mono h2 fun v w'' he => key v w'' he
    case defer d =>
      obtain ⟨v2, e1, _⟩ := h2
      have := congrArg (fun b : Act => b.defers.length) e1
      cases hdst : o.dst <;> simp [hdst, Act.put] at this
  | halt x w' => cases x <;> simp only [Oper.upon] at h2 ⊢
/-- What is told is kept where a part of it is kept and nothing else is written. -/
theorem rep_frame {M M' : Mem} {w w' : World} (h : Rep M' w) (hs : Sub M M') (h1 : Rep M w') (h2 : Ext M w M w') : Rep M' w' := by
  intro b B hB
  cases hM : M b with
  | some B0 =>
    have := hs _ _ hM
    rw [hB] at this
    injection this with this
    rw [this]
    exact h1 b _ hM
  | none =>
    have hold := h b B hB
    have hlt : b < w.heap.size := by
      rcases Nat.lt_or_ge b w.heap.size with hlt | hge
      · exact hlt
      · cases B with
        | cells own xs tot => obtain ⟨c, e, fr, q, _⟩ := hold; rw [Array.getElem?_eq_none hge] at q; cases q
        | obj o => obtain ⟨q, _⟩ := hold; rw [Array.getElem?_eq_none hge] at q; cases q
    have heq := h2.block b hlt (fun ⟨B1, q, _⟩ => by rw [hM] at q; cases q)
    exact Blk.holds_of heq hold
theorem pick_get (r : List Oper) : ∀ (pm : List Nat), (∀ i ∈ pm, i < r.length) → (pickL r pm).length = pm.length ∧ ∀ q, q < pm.length → (pickL r pm)[q]? = r[pl pm q]?
  | [], _ => ⟨rfl, fun q hq => absurd hq (Nat.not_lt_zero q)⟩
  | i :: pm, h => by
    have hi := h i (List.mem_cons_self ..)
    obtain ⟨h1, h2⟩ := pick_get r pm fun j hj => h j (List.mem_cons_of_mem _ hj)
    have e : pickL r (i :: pm) = r[i] :: pickL r pm := by
      conv => lhs; unfold pickL
      rw [List.getElem?_eq_getElem hi]
    rw [e]
    refine ⟨by simp [h1], fun q hq => ?_⟩
    cases q with
    | zero => simp [pl, List.getElem?_eq_getElem hi]
    | succ q =>
      have := h2 q (by simpa using hq)
      simpa [pl] using this
theorem okB_spec {r : List Oper} {pm : List Nat} {l : List Oper} {n f : Nat} (hl : l = pickL r pm) (h : okB r pm l n f = true) :
    (l.length = r.length ∧ (∀ q, q < l.length → l[q]? = r[pl pm q]? ∧ pl pm q < r.length) ∧ (∀ i j, i < l.length → j < l.length → pl pm i = pl pm j → i = j) ∧ (∀ i, i < r.length → ∃ q, q < l.length ∧ pl pm q = i)) ∧
    (∀ j, j < n → ∃ i, j < i ∧ i ≤ n + f ∧ Region.waitsFor .any r.toArray (pl pm i) (pl pm j) = true) ∧ n + f < l.length ∧ (∀ o ∈ r, o.guard = none) ∧ Region.noSelect r.toArray = true ∧ n ≤ l.length ∧
    (∀ i j a, i ≠ j → i < l.length → j < l.length → dstOf l i = some a → dstOf l j ≠ some a) ∧
    (∀ i j t, i ≠ j → i < l.length → j < l.length → dstOf l j = some t → readsB l i t = true → (j < i ∧ Region.waitsFor .any r.toArray (pl pm i) (pl pm j) = true) ∨ (i < j ∧ Region.waitsFor .any r.toArray (pl pm j) (pl pm i) = true)) ∧
    (∀ i, i < l.length → n < i → Region.waitsFor .any r.toArray (pl pm i) (pl pm (i - 1)) = true) ∧ (∀ (i : Nat) (o : Oper), r[i]? = some o → ∀ e ∈ o.after, Region.binds .any e = true → e.on < i) := by
  unfold okB placeB at h
  simp only [Bool.and_eq_true, List.all_eq_true, decide_eq_true_eq, List.mem_range, Bool.or_eq_true, beq_iff_eq, bne_iff_ne, List.any_eq_true] at h
  obtain ⟨⟨z1, z2, z3, z4⟩, ha, hb, h1, h2, h3, h4, h5, h6⟩ := h
  obtain ⟨y1, y2⟩ := pick_get r pm z2
  rw [← hl] at y1 y2
  have hlen : l.length = r.length := by rw [y1, z1]
  have hpl : ∀ q, q < l.length → pl pm q < r.length := by
    intro q hq
    have hq' : q < pm.length := by omega
    unfold pl
    rw [List.getD_eq_getElem?_getD, List.getElem?_eq_getElem hq']
    exact z2 _ (List.getElem_mem hq')
  refine ⟨⟨hlen, fun q hq => ⟨y2 q (by omega), hpl q hq⟩, ?_, ?_⟩, ?_, hb, fun o ho => by have := h1 o ho; simpa using this, h2, h3, ?_, ?_, ?_, ?_⟩
  · intro i j hi hj he
    rcases z3 i (by omega) j (by omega) with hh | hh
    · exact hh
    · exact absurd he hh
  · intro i hi
    obtain ⟨q, q1, q2⟩ := z4 i hi
    exact ⟨q, by omega, q2⟩
  · intro j hj
    have := ha j hj
    unfold sinkB at this
    obtain ⟨i, h7, h8⟩ := List.any_eq_true.1 this
    simp only [Bool.and_eq_true, decide_eq_true_eq] at h8
    exact ⟨i, h8.1, by have := List.mem_range.1 h7; omega, h8.2⟩
  · intro i j a hij hi hj ha hb
    have := (h4 i hi j hj).1
    unfold apartB at this
    rw [ha, hb] at this
    simp [hij] at this
  · intro i j t hij hi hj hd hr
    have := (h4 i hi j hj).2
    unfold orderB at this
    rw [hd] at this
    simpa [hij, hr] using this
  · intro i hi hn
    rcases h5 i hi with h | h
    · omega
    · exact h
  · intro i o ho e he hb
    have hi : i < r.length := (List.getElem?_eq_some_iff.1 ho).1
    have := h6 i hi
    unfold backB at this
    rw [ho] at this
    have := Array.all_eq_true'.1 this e he
    simpa [hb] using this
theorem reads_mem {l : List Oper} {i : Nat} {o : Oper} (ho : l[i]? = some o) {t : Tmp} (h : Operand.tmp t ∈ o.op.operands) : readsB l i t = true := by
  unfold readsB
  rw [ho]
  exact List.any_eq_true.2 ⟨_, by simpa using h, by simp [isTmp]⟩
/-- A state of a region of which some operations are done. -/
structure St (P : Program) (T : Tab) (pm : List Nat) (l : List Oper) (n f nt : Nat) (Q : Exit → Env → Mem → Prop) (env : Env) (M : Mem) (vals : Nat → Value) (M0 : Mem) (w0 : World) (listed : Array Bool) (a : Act) (w : World) (k : Nat) (c e : Env) (M' : Mem) : Prop where
  size : listed.size = l.length
  closed : ∀ (j : Nat) (o : Oper), l[j]? = some o → listed.getD (pl pm j) false = true → ∀ x ∈ o.after, Region.binds .any x = true → listed.getD x.on false = true
  rest : ∀ j, n ≤ j → j < l.length → (listed.getD (pl pm j) false = true ↔ j < n + k)
  hk : n + k ≤ l.length
  fits : Fits nt e a
  rep : Rep M' w
  ext : Ext M0 w0 M' w
  sub : k ≤ f → Sub M M'
  light : ∀ j t, j < n → dstOf l j = some t → c t = vals j
  other : ∀ t, (∀ j, j < n + k → dstOf l j ≠ some t) → c t = env t
  ea : ∀ j t, j < n → listed.getD (pl pm j) false = false → dstOf l j = some t → e t = env t
  eb : ∀ t, (∀ j, j < n → listed.getD (pl pm j) false = false → dstOf l j ≠ some t) → e t = c t
  vr : vRs P T M Q (f - k) (l.drop (n + k)) c M'
def left (listed : Array Bool) : Nat := listed.toList.count false
theorem left_set : ∀ (l : List Bool) (i : Nat), l[i]? = some false → (l.set i true).count false + 1 = l.count false
  | [], i, h => by simp at h
  | b :: l, 0, h => by
    injection h with h
    subst h
    simp
  | b :: l, i + 1, h => by
    have ih := left_set l i (by simpa using h)
    rw [List.set_cons_succ, List.count_cons, List.count_cons]
    omega
theorem getD_of {listed : Array Bool} {i : Nat} (h : listed.getD i true = false) : listed.getD i false = false ∧ listed.toList[i]? = some false := by
  rw [Array.getD_eq_getD_getElem?] at *
  rw [Array.getElem?_toList]
  cases hq : listed[i]? with
  | none => rw [hq] at h; simp at h
  | some b => rw [hq] at h; simp at h; subst h; exact ⟨rfl, rfl⟩
theorem getD_set' {listed : Array Bool} {i j : Nat} (hi : i < listed.size) : (listed.setIfInBounds i true).getD j false = if j = i then true else listed.getD j false := by
  rw [Array.getD_eq_getD_getElem?, Array.getD_eq_getD_getElem?]
  by_cases h : j = i
  · subst h; rw [if_pos rfl]; simp [hi]
  · rw [if_neg h, Array.getElem?_setIfInBounds_ne (Ne.symm h)]
theorem put_hit (e : Env) {d : Option Tmp} {t : Tmp} (v : Value) (h : d = some t) : put e d v t = v := by subst h; simp [put]
theorem put_miss (e : Env) {d : Option Tmp} {t : Tmp} (v : Value) (h : d ≠ some t) : put e d v t = e t := by
  cases d with
  | none => rfl
  | some d => simp only [put]; rw [if_neg (fun hh => h (by rw [hh]))]
theorem vRs_end (M0 : Mem) (f : Nat) : vRs P T M0 Q f [] env M = Q .normal env M := by cases f <;> rfl
theorem fin_is {pm : List Nat} {l : List Oper} {n f nt : Nat} {vals : Nat → Value} {M0 : Mem} {w0 : World} {listed : Array Bool} {a : Act} {w : World} {k : Nat} {c e : Env} {M' : Mem} (h : St P T pm l n f nt Q env M vals M0 w0 listed a w k c e M') (all : ∀ j, j < l.length → listed.getD (pl pm j) false = true) : Way nt M0 w0 Q .normal a w := by
  have hk := h.hk
  have hn : n + k = l.length := by
    rcases Nat.lt_or_ge (n + k) l.length with h1 | h1
    · have := (h.rest (n + k) (by omega) h1).1 (all _ h1); omega
    · omega
  have hv := h.vr
  rw [hn, List.drop_length, vRs_end] at hv
  have he : e = c := by
    funext t
    exact h.eb t fun j hj hu _ => by rw [all j (by omega)] at hu; cases hu
  exact ⟨c, M', he ▸ h.fits, h.rep, h.ext, hv⟩
theorem any_is (hT : TabOk P T) {r : List Oper} {pm : List Nat} {l : List Oper} {n f nt : Nat} (hpk : l = pickL r pm) (hok : okB r pm l n f = true) (hd : l.all (dstIn nt) = true) {vals : Nat → Value} {c0 : Nat → Env} (hc0 : c0 0 = env)
    (hl : ∀ i, i < n → ∃ o, l[i]? = some o ∧ QuietOp P o.op (c0 i) M (vals i) ∧ c0 (i + 1) = put (c0 i) o.dst (vals i)) (M0 : Mem) (w0 : World) :
    ∀ (fuel : Nat) (listed : Array Bool) (a : Act) (w : World) (k : Nat) (c e : Env) (M' : Mem), left listed = fuel → St P T pm l n f nt Q env M vals M0 w0 listed a w k c e M' → wpAny P .any r.toArray (Way nt M0 w0 Q) fuel listed a w := by
  obtain ⟨⟨gl, gp, gi, gs⟩, ga, gb, g1, g2, g3, g4, g5, g6, g7⟩ := okB_spec hpk hok
  have uniq : ∀ i j t, i < l.length → j < l.length → dstOf l i = some t → dstOf l j = some t → i = j := by
    intro i j t hi hj h1 h2
    by_cases h : i = j
    · exact h
    · exact absurd h2 (g4 i j t h hi hj h1)
  have dlt : ∀ j t, dstOf l j = some t → j < l.length := by
    intro j t h
    rcases Nat.lt_or_ge j l.length with h1 | h1
    · exact h1
    · unfold dstOf at h; rw [List.getElem?_eq_none h1] at h; cases h
  have dof : ∀ (i : Nat) (o : Oper), l[i]? = some o → dstOf l i = o.dst := by intro i o h; unfold dstOf; rw [h]; rfl
  have p1 : ∀ i, i ≤ n → ∀ j t, j < i → dstOf l j = some t → c0 i t = vals j := by
    intro i
    induction i with
    | zero => intro _ j t hj; omega
    | succ i ih =>
      intro hi j t hj hjt
      obtain ⟨o, k1, _, k3⟩ := hl i (by omega)
      rw [k3]
      by_cases hij : j = i
      · subst hij; exact put_hit _ _ (by rw [← dof _ _ k1]; exact hjt)
      · rw [put_miss _ _ (by rw [← dof _ _ k1]; exact fun hh => hij (uniq _ _ t (by omega) (by omega) hjt hh))]
        exact ih (by omega) j t (by omega) hjt
  have p2 : ∀ i, i ≤ n → ∀ t, (∀ j, j < i → dstOf l j ≠ some t) → c0 i t = env t := by
    intro i
    induction i with
    | zero => intro _ t _; rw [hc0]
    | succ i ih =>
      intro hi t ht
      obtain ⟨o, k1, _, k3⟩ := hl i (by omega)
      rw [k3, put_miss _ _ (by rw [← dof _ _ k1]; exact ht i (by omega))]
      exact ih (by omega) t fun j hj => ht j (by omega)
  have waits : ∀ (i j : Nat) (o : Oper), l[i]? = some o → Region.waitsFor .any r.toArray (pl pm i) (pl pm j) = true → ∃ x ∈ o.after, Region.binds .any x = true ∧ x.on = pl pm j := by
    intro i j o ho h
    obtain ⟨oj, h1, x, h2, h3, h4⟩ := Region.waitsFor_spec h
    have hi : i < l.length := (List.getElem?_eq_some_iff.1 ho).1
    rw [List.getElem?_toArray, ← (gp i hi).1, ho] at h1
    injection h1 with h1
    subst h1
    exact ⟨x, h2, h3, h4⟩
  intro fuel
  induction fuel with
  | zero =>
    intro listed a w k c e M' hf h
    have allO : ∀ j, j < r.length → listed.getD j false = true := by
      intro j hj
      have h0 : listed.toList.count false = 0 := hf
      rw [List.count_eq_zero] at h0
      have hsz := h.size
      rw [Array.getD_eq_getD_getElem?, Array.getElem?_eq_getElem (by omega)]
      simp only [Option.getD_some]
      cases hb : listed[j] with
      | true => rfl
      | false => exact absurd (by rw [← hb]; exact Array.mem_toList_iff.2 (Array.getElem_mem _)) h0
    have all : ∀ j, j < l.length → listed.getD (pl pm j) false = true := fun j hj => allO _ (gp j hj).2
    have hready : Region.ready .any r.toArray listed = [] := by
      rw [List.eq_nil_iff_forall_not_mem]
      intro i hi
      obtain ⟨h1, o, h2, _⟩ := mem_ready.1 hi
      have := allO i (by rw [List.getElem?_toArray] at h2; exact (List.getElem?_eq_some_iff.1 h2).1)
      rw [(getD_of h1).1] at this
      cases this
    exact ⟨hready, fin_is h all⟩
  | succ fuel ih =>
    intro listed a w k c e M' hf h
    refine ⟨fun hr => ?_, fun i hi => ?_⟩
    · have allO : ∀ j, j < r.length → listed.getD j false = true := by
        intro j
        induction j using Nat.strongRecOn with
        | _ j ihj =>
          intro hj
          cases hb : listed.getD j false with
          | true => rfl
          | false =>
            exfalso
            have hsz := h.size
            have : j ∈ Region.ready .any r.toArray listed := by
              refine mem_ready.2 ⟨?_, r[j], by simp [hj], ?_⟩
              · rw [Array.getD_eq_getD_getElem?, Array.getElem?_eq_getElem (by omega)] at hb ⊢
                exact hb
              · intro x hx hbx
                have hlt := g7 j r[j] (List.getElem?_eq_getElem hj) x hx hbx
                exact ihj x.on hlt (by omega)
            rw [hr] at this
            cases this
      exact fin_is h fun j hj => allO _ (gp j hj).2
    · obtain ⟨h1, o, h2, h3⟩ := mem_ready.1 hi
      rw [List.getElem?_toArray] at h2
      obtain ⟨i, hil, rfl⟩ := gs _ (List.getElem?_eq_some_iff.1 h2).1
      have h2r := h2
      rw [← (gp i hil).1] at h2
      obtain ⟨hu, hul⟩ := getD_of h1
      have hsz := h.size
      have hguard : o.guard = none := g1 o (List.mem_of_getElem? h2r)
      have hdo := List.all_eq_true.1 hd o (List.mem_of_getElem? h2)
      have hsel : ∀ cs b, o.op ≠ .select cs b := fun cs b => Region.noSelect_spec g2 _ o cs b (by rw [List.getElem?_toArray]; exact h2r)
      have hleft : left (listed.setIfInBounds (pl pm i) true) = fuel := by
        unfold left at *
        rw [Array.toList_setIfInBounds]
        have := left_set listed.toList _ hul
        omega
      have hpi := (gp i hil).2
      have hset0 : ∀ j, (listed.setIfInBounds (pl pm i) true).getD j false = if j = pl pm i then true else listed.getD j false := fun j => getD_set' (by omega)
      have hset : ∀ j, j < l.length → (listed.setIfInBounds (pl pm i) true).getD (pl pm j) false = if j = i then true else listed.getD (pl pm j) false := by
        intro j hj
        rw [hset0]
        by_cases hji : j = i
        · rw [if_pos (by rw [hji]), if_pos hji]
        · rw [if_neg (fun hh => hji (gi j i hj hil hh)), if_neg hji]
      have hclosed : ∀ (j : Nat) (o' : Oper), l[j]? = some o' → (listed.setIfInBounds (pl pm i) true).getD (pl pm j) false = true → ∀ x ∈ o'.after, Region.binds .any x = true → (listed.setIfInBounds (pl pm i) true).getD x.on false = true := by
        intro j o' ho' hj x hx hb
        have hjl : j < l.length := (List.getElem?_eq_some_iff.1 ho').1
        rw [hset j hjl] at hj
        rw [hset0]
        split
        · rfl
        · by_cases hji : j = i
          · subst hji
            rw [h2] at ho'
            injection ho' with ho'
            subst ho'
            exact h3 x hx hb
          · rw [if_neg hji] at hj
            exact h.closed j o' ho' hj x hx hb
      have hdi := dof i o h2
      unfold wpOp
      rw [List.getElem?_toArray, h2r]
      dsimp only
      rw [if_pos (by simp [Region.wanted, hguard])]
      refine Or.inl ?_
      unfold Oper.wp
      by_cases hin : i < n
      · obtain ⟨o', q1, q2, q3⟩ := hl i hin
        rw [h2] at q1
        injection q1 with q1
        subst q1
        have hkf : k ≤ f := by
          rcases Nat.lt_or_ge f k with hfk | hfk
          · exfalso
            have all : ∀ d j, n - j = d → j < n → listed.getD (pl pm j) false = true := by
              intro d
              induction d using Nat.strongRecOn with
              | _ d ihd =>
                intro j hd' hj
                obtain ⟨j', r1, r2, r3⟩ := ga j hj
                have hj'l : j' < l.length := by omega
                have hlj : listed.getD (pl pm j') false = true := by
                  by_cases hjn : j' < n
                  · exact ihd (n - j') (by omega) j' rfl hjn
                  · exact (h.rest j' (by omega) hj'l).2 (by omega)
                obtain ⟨x, k1, k2, k3⟩ := waits j' j l[j'] (List.getElem?_eq_getElem hj'l) r3
                have := h.closed j' l[j'] (List.getElem?_eq_getElem hj'l) hlj x k1 k2
                rw [k3] at this
                exact this
            rw [all (n - i) i rfl hin] at hu
            cases hu
          · exact hfk
        have hsub := h.sub hkf
        have hx : ∀ x ∈ o.op.operands, ev e x = ev (c0 i) x := by
          intro x hx
          cases x with
          | const v => rfl
          | global g => rfl
          | func f => rfl
          | tmp t =>
            simp only [ev]
            by_cases hwr : ∃ j, dstOf l j = some t
            · obtain ⟨j, hj⟩ := hwr
              have hjl := dlt j t hj
              by_cases hji : j = i
              · subst hji
                rw [h.ea j t hin hu hj]
                exact (p2 j (by omega) t fun j' hj' hh => by have := uniq j' j t (by omega) hjl hh hj; omega).symm
              · rcases g5 i j t (Ne.symm hji) hil hjl hj (reads_mem h2 hx) with ⟨hlt, hw⟩ | ⟨hlt, hw⟩
                · obtain ⟨x, k1, k2, k3⟩ := waits i j o h2 hw
                  have hlj := h3 x k1 k2
                  rw [k3] at hlj
                  rw [h.eb t (fun j' hj' hu' hh => by have := uniq j' j t (by omega) hjl hh hj; subst this; rw [hu'] at hlj; cases hlj), h.light j t (by omega) hj]
                  exact (p1 i (by omega) j t hlt hj).symm
                · have hnl : listed.getD (pl pm j) false = false := by
                    cases hb : listed.getD (pl pm j) false with
                    | false => rfl
                    | true =>
                      obtain ⟨x, k1, k2, k3⟩ := waits j i l[j] (List.getElem?_eq_getElem hjl) hw
                      have := h.closed j l[j] (List.getElem?_eq_getElem hjl) hb x k1 k2
                      rw [k3, hu] at this
                      cases this
                  rw [p2 i (by omega) t fun j' hj' hh => by have := uniq j' j t (by omega) hjl hh hj; omega]
                  by_cases hjn : j < n
                  · exact h.ea j t hjn hnl hj
                  · have hjk : ¬ j < n + k := fun hh => by rw [(h.rest j (by omega) hjl).2 hh] at hnl; cases hnl
                    rw [h.eb t (fun j' hj' _ hh => by have := uniq j' j t (by omega) hjl hh hj; omega)]
                    exact h.other t fun j' hj' hh => by have hk := h.hk; have := uniq j' j t (by omega) hjl hh hj; omega
            · have hno : ∀ j, dstOf l j ≠ some t := fun j hh => hwr ⟨j, hh⟩
              rw [h.eb t fun j _ _ => hno j, h.other t fun j _ => hno j, p2 i (by omega) t fun j _ => hno j]
        have hex : execOp a.eval o = execOp (ev (c0 i)) o := by rw [h.fits.ev]; exact execOp_congr o hsel hx
        have hnext : ∀ w', Rep M' w' → Ext M' w M' w' → wpAny P .any r.toArray (Way nt M0 w0 Q) fuel (listed.setIfInBounds (pl pm i) true) (a.put o.dst (vals i)) w' := by
          intro w' hr' he'
          refine ih _ _ _ k c (put e o.dst (vals i)) M' hleft ⟨by simp [hsz], hclosed, ?_, h.hk, h.fits.put (dstIn_spec hdo) _, hr', h.ext.trans he', h.sub, h.light, h.other, ?_, ?_, h.vr⟩
          · intro j hj hjl
            rw [hset _ (by omega), if_neg (by omega)]
            exact h.rest j hj hjl
          · intro j t hj hu' hjt
            rw [hset _ (by omega)] at hu'
            split at hu'
            · cases hu'
            · rename_i hji
              rw [put_miss _ _ (by rw [← hdi]; exact fun hh => hji (uniq j i t (by omega) hil hjt hh))]
              exact h.ea j t hj hu' hjt
          · intro t ht
            by_cases hdt : o.dst = some t
            · rw [put_hit _ _ hdt]
              exact (h.light i t hin (by rw [hdi]; exact hdt)).symm
            · rw [put_miss _ _ hdt]
              refine h.eb t fun j hj hu' hh => ?_
              by_cases hji : j = i
              · subst hji; rw [hdi] at hh; exact hdt hh
              · exact ht j hj (by rw [hset _ (by omega), if_neg hji]; exact hu') hh
        rw [hex]
        rcases q2 w o (h.rep.sub hsub) rfl with hr | ⟨f, args, hr, hcall⟩
        · rw [hr]
          exact hnext w h.rep (Ext.refl _ _)
        · rw [hr]
          refine hcall.mono ?_
          rintro e' w' ⟨rfl, k1, k2⟩
          exact hnext w' (rep_frame h.rep hsub k1 k2) ⟨k2.os, k2.tape, k2.output, k2.size, fun b hb ho => k2.block b hb (fun hh => ho (owns_sub hsub hh)), fun b hb => .inl hb⟩
      · have hik : i = n + k := by
          have hnk : ¬ i < n + k := fun hh => by rw [(h.rest i (by omega) hil).2 hh] at hu; cases hu
          by_cases hgt : n + k < i
          · exfalso
            obtain ⟨x, k1, k2, k3⟩ := waits i (i - 1) o h2 (g6 i hil (by omega))
            have := h3 x k1 k2
            rw [k3] at this
            have := (h.rest (i - 1) (by omega) (by omega)).1 this
            omega
          · omega
        subst hik
        have hvr := h.vr
        rw [List.drop_eq_getElem_cons hil] at hvr
        have ho : l[n + k] = o := by rw [List.getElem?_eq_getElem hil] at h2; injection h2
        rw [ho] at hvr
        have hO : OpTo P o.op c M' (fun v M'' => (k + 1 ≤ f → Sub M M'') ∧ vRs P T M Q (f - (k + 1)) (l.drop (n + k + 1)) (put c o.dst v) M'') := by
          cases hfk : f - k with
          | zero =>
            rw [hfk] at hvr
            exact opTo_mono (vOp_is T hT o.op hvr) fun v M'' hq => ⟨fun hh => by omega, by rw [show f - (k + 1) = 0 by omega]; exact hq⟩
          | succ r =>
            rw [hfk] at hvr
            exact opTo_mono (vOp_is T hT o.op hvr) fun v M'' hq => ⟨fun _ => hq.1, by rw [show f - (k + 1) = r by omega]; exact hq.2⟩
        refine opTo_at (nt := nt) (c := c) (e := e) hsel hdo hO h.fits ?_ ?_ h.rep _ _ ?_
        · intro x hx
          cases x with
          | const v => rfl
          | global g => rfl
          | func f => rfl
          | tmp t =>
            simp only [ev]
            refine (h.eb t fun j hj hu' hh => ?_).symm
            rcases g5 (n + k) j t (by omega) hil (by omega) hh (reads_mem h2 hx) with ⟨hlt, hw⟩ | ⟨hlt, hw⟩
            · obtain ⟨x, k1, k2, k3⟩ := waits (n + k) j o h2 hw
              have := h3 x k1 k2
              rw [k3, hu'] at this
              cases this
            · omega
        · intro t ht
          rw [← h.eb t fun j hj _ hh => by
            have hjl := dlt j t hh
            have := dstIn_spec (List.all_eq_true.1 hd l[j] (List.getElem_mem hjl)) t (by rw [← dof j l[j] (List.getElem?_eq_getElem hjl)]; exact hh)
            exact absurd this (Nat.not_lt.2 ht)]
          have := congrFun h.fits.ev (.tmp t)
          simp only [Act.eval, ev] at this
          rw [← this, Array.getD_eq_getD_getElem?, Array.getElem?_eq_none (by rw [h.fits.size]; exact ht)]
          rfl
        · intro v M'' w' k1 k2 k3
          obtain ⟨k3, k4⟩ := k3
          refine ih _ _ _ (k + 1) (put c o.dst v) (put e o.dst v) M'' hleft ⟨by simp [hsz], hclosed, ?_, by omega, h.fits.put (dstIn_spec hdo) _, k1, h.ext.trans k2, k3, ?_, ?_, ?_, ?_, k4⟩
          · intro j hj hjl
            rw [hset _ (by omega)]
            split
            · simp; omega
            · rename_i hji
              rw [h.rest j hj hjl]
              omega
          · intro j t hj hjt
            rw [put_miss _ _ (by rw [← hdi]; exact fun hh => by have := uniq j (n + k) t (by omega) hil hjt hh; omega)]
            exact h.light j t hj hjt
          · intro t ht
            rw [put_miss _ _ (by rw [← hdi]; exact ht (n + k) (by omega))]
            exact h.other t fun j hj => ht j (by omega)
          · intro j t hj hu' hjt
            rw [put_miss _ _ (by rw [← hdi]; exact fun hh => by have := uniq j (n + k) t (by omega) hil hjt hh; omega)]
            refine h.ea j t hj ?_ hjt
            rw [hset _ (by omega), if_neg (by omega)] at hu'
            exact hu'
          · intro t ht
            by_cases hdt : o.dst = some t
            · rw [put_hit _ _ hdt, put_hit _ _ hdt]
            · rw [put_miss _ _ hdt, put_miss _ _ hdt]
              refine h.eb t fun j hj hu' hh => ht j hj ?_ hh
              rw [hset _ (by omega), if_neg (by omega)]
              exact hu'
theorem left_new (n : Nat) : left (Array.replicate n false) = n := by unfold left; simp
theorem new_false (n j : Nat) : (Array.replicate n false).getD j false = false := by
  rw [Array.getD_eq_getD_getElem?]
  rcases Nat.lt_or_ge j n with h | h
  · simp [h]
  · simp [h]
/-- A region that draws its order, whose first n operations read, and whose others come one after the other, making memory. -/
theorem draws_at (pm : List Nat) (n f : Nat) (hT : TabOk P T) {nt id : Nat} {r : List Oper} (hm : P.follows .mixedOrders = true) (hB : okB r pm (pickL r pm) n f = true) (hd : (pickL r pm).all (dstIn nt) = true) (h : vLs P T Q f n (pickL r pm) env M) : CodeTo P nt (.region id r.toArray true) Q env M := by
  intro M0 w0 a w h1 h2 h3
  obtain ⟨l, hpk⟩ : ∃ l, l = pickL r pm := ⟨_, rfl⟩
  rw [← hpk] at hB hd h
  obtain ⟨vals, c, hc0, hl, hv⟩ := lights_is hT f n l env h
  obtain ⟨⟨gl, gp, gi, gs⟩, ga, gb, g1, g2, g3, g4, g5, g6, g7⟩ := okB_spec hpk hB
  have dof : ∀ (i : Nat) (o : Oper), l[i]? = some o → dstOf l i = o.dst := by intro i o h; unfold dstOf; rw [h]; rfl
  have uniq : ∀ i j t, i < l.length → j < l.length → dstOf l i = some t → dstOf l j = some t → i = j := by
    intro i j t hi hj h1 h2
    by_cases h : i = j
    · exact h
    · exact absurd h2 (g4 i j t h hi hj h1)
  have p1 : ∀ i, i ≤ n → ∀ j t, j < i → dstOf l j = some t → c i t = vals j := by
    intro i
    induction i with
    | zero => intro _ j t hj; omega
    | succ i ih =>
      intro hi j t hj hjt
      obtain ⟨o, k1, _, k3⟩ := hl i (by omega)
      rw [k3]
      by_cases hij : j = i
      · subst hij; exact put_hit _ _ (by rw [← dof _ _ k1]; exact hjt)
      · rw [put_miss _ _ (by rw [← dof _ _ k1]; exact fun hh => hij (uniq _ _ t (by omega) (by omega) hjt hh))]
        exact ih (by omega) j t (by omega) hjt
  have p2 : ∀ i, i ≤ n → ∀ t, (∀ j, j < i → dstOf l j ≠ some t) → c i t = env t := by
    intro i
    induction i with
    | zero => intro _ t _; rw [hc0]
    | succ i ih =>
      intro hi t ht
      obtain ⟨o, k1, _, k3⟩ := hl i (by omega)
      rw [k3, put_miss _ _ (by rw [← dof _ _ k1]; exact ht i (by omega))]
      exact ih (by omega) t fun j hj => ht j (by omega)
  refine wp_region_any hm ?_
  refine any_is hT hpk hB hd hc0 hl M0 w0 _ _ _ _ 0 (c n) env M (by simp [left_new]) ⟨by simp [gl], ?_, ?_, by omega, h1, fun b B hB' => Blk.holds_of (w := w) rfl (h2 b B hB'), ⟨h3.os, h3.tape, h3.output, h3.size, h3.block, h3.own⟩, fun _ => Sub.refl _, fun j t hj ht => p1 n (Nat.le_refl n) j t hj ht, fun t ht => p2 n (Nat.le_refl n) t fun j hj => ht j (by omega), fun _ _ _ _ _ => rfl, ?_, hv⟩
  · intro j o ho hj
    rw [new_false] at hj
    cases hj
  · intro j hj hjl
    rw [new_false]
    simp
    omega
  · intro t ht
    exact (p2 n (Nat.le_refl n) t fun j hj => ht j hj (new_false _ _)).symm
theorem pick_id (l : List Oper) : pickL l (List.range l.length) = l := by
  obtain ⟨h1, h2⟩ := pick_get l (List.range l.length) (fun i hi => List.mem_range.1 hi)
  rw [List.length_range] at h1 h2
  apply List.ext_getElem?
  intro q
  rcases Nat.lt_or_ge q l.length with hq | hq
  · rw [h2 q hq]
    congr 1
    unfold pl
    rw [List.getD_eq_getElem?_getD, List.getElem?_range hq]
    rfl
  · rw [List.getElem?_eq_none (by omega), List.getElem?_eq_none hq]
/-- So where the readings stand first. -/
theorem draws_to (n f : Nat) (hT : TabOk P T) {nt id : Nat} {l : List Oper} (hm : P.follows .mixedOrders = true) (hB : okB l (List.range l.length) l n f = true) (hd : l.all (dstIn nt) = true) (h : vLs P T Q f n l env M) : CodeTo P nt (.region id l.toArray true) Q env M :=
  draws_at (List.range l.length) n f hT hm (by rw [pick_id]; exact hB) (by rw [pick_id]; exact hd) (by rw [pick_id]; exact h)
end
section
variable {P : Program} {T : Tab} {env : Env} {M : Mem} {Q : Exit → Env → Mem → Prop}
@[simp] theorem pickL_nil {r : List Oper} : pickL r [] = [] := nr rfl
@[simp] theorem pickL_cons {r : List Oper} {i : Nat} {pm : List Nat} : pickL r (i :: pm) = consP (r[i]?) (pickL r pm) := by
  conv => lhs; unfold pickL
  cases r[i]? <;> rfl
@[simp] theorem consP_some {o : Oper} {l : List Oper} : consP (some o) l = o :: l := nr rfl
@[simp] theorem keepQ_at {M0 : Mem} {r : Env → Mem → Prop} : keepQ M0 r env M = (Sub M0 M ∧ r env M) := nr rfl
@[simp] theorem sub_refl' {M : Mem} : Sub M M = True := eq_true (Sub.refl M)
@[simp] theorem vLs_zero {f : Nat} {l : List Oper} : vLs P T Q f 0 l env M = vRs P T M Q f l env M := nr rfl
@[simp] theorem vLs_succ {f n : Nat} {o : Oper} {l : List Oper} : vLs P T Q f (n + 1) (o :: l) env M = vQ P T o.op env (Kt (vLs P T Q f n l) env o.dst) M := nr rfl
@[simp] theorem vRs_nil {M0 : Mem} {f : Nat} : vRs P T M0 Q f [] env M = Q .normal env M := vRs_end M0 f
@[simp] theorem vRs_zero {M0 : Mem} {o : Oper} {l : List Oper} : vRs P T M0 Q 0 (o :: l) env M = vOp P T o.op env (Kt (vRs P T M0 Q 0 l) env o.dst) M := nr rfl
@[simp] theorem vRs_succ {M0 : Mem} {f : Nat} {o : Oper} {l : List Oper} : vRs P T M0 Q (f + 1) (o :: l) env M = vOp P T o.op env (Kt (keepQ M0 (vRs P T M0 Q f l)) env o.dst) M := nr rfl
end
end Go.Proofs.Ytbefijbmgmbphaa
