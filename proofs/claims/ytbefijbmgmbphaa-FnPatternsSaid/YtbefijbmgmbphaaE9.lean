/- The calculus, continued: regions that draw their order, whose operations read or make memory, in groups, with guards. -/
import Derived.Test.YtbefijbmgmbphaaE7
namespace Go.Proofs.Ytbefijbmgmbphaa
open Go
set_option linter.unusedSimpArgs false
set_option linter.unusedVariables false

/-- Is an operation taken at this environment? -/
def Want (r : List Oper) (o : Oper) (c : Env) : Prop := ∀ j b, o.guard = some (j, b) → yE r c j = some b
/-- An operation that reads alone has its value at a memory, or is passed by. -/
def LightAt (P : Program) (r : List Oper) (o : Oper) (c : Env) (M : Mem) (v : Value) : Prop := (¬ Want r o c ∧ v = undef) ∨ (Want r o c ∧ ∃ M1, Sub M1 M ∧ QuietOp P o.op c M1 v)
def guardTmp (r : List Oper) (o : Oper) : Option Tmp := match o.guard with
  | none => none
  | some (j, _) => (r[j]?).bind (·.dst)
def gReads (r l : List Oper) (i : Nat) (t : Tmp) : Bool := readsB l i t || (match l[i]? with
  | some o => guardTmp r o == some t
  | none => false)
def hvy (ks : List Nat) (i : Nat) : Bool := ks.getD i 0 != 0
def plainTo (ks : List Nat) (j i : Nat) : Bool := (List.range i).all fun h => decide (h ≤ j) || !hvy ks h
def chainB (r : List Oper) (ks pm : List Nat) (i : Nat) : Bool := (List.range i).all (fun h => !hvy ks h) || (List.range i).any fun j => plainTo ks j i && Region.waitsFor .any r.toArray (pl pm i) (pl pm j)
def sinkAt (r : List Oper) (pm : List Nat) (p : Nat) : Bool := (List.range p).all fun i => (List.range (p + 1)).any fun j => decide (i < j) && Region.waitsFor .any r.toArray (pl pm j) (pl pm i)
def orderG (r l : List Oper) (pm : List Nat) (i j : Nat) : Bool := i == j || (match dstOf l j with
  | some t => !gReads r l i t || (decide (j < i) && Region.waitsFor .any r.toArray (pl pm i) (pl pm j)) || (decide (i < j) && Region.waitsFor .any r.toArray (pl pm j) (pl pm i))
  | none => true)
def okG (r : List Oper) (pm ks : List Nat) (l : List Oper) : Bool :=
  placeB r pm && (ks.length == l.length && (Region.noSelect r.toArray && (((List.range l.length).all fun i => (List.range l.length).all fun j => apartB l i j && orderG r l pm i j) &&
    (((List.range l.length).all fun i => chainB r ks pm i) && (((List.range l.length).all fun p => ks.getD p 0 != 2 || sinkAt r pm p) && ((List.range r.length).all fun i => backB r i))))))
theorem place_spec {r : List Oper} {pm : List Nat} {l : List Oper} (hl : l = pickL r pm) (h : placeB r pm = true) :
    l.length = r.length ∧ (∀ q, q < l.length → l[q]? = r[pl pm q]? ∧ pl pm q < r.length) ∧ (∀ i j, i < l.length → j < l.length → pl pm i = pl pm j → i = j) ∧ (∀ i, i < r.length → ∃ q, q < l.length ∧ pl pm q = i) := by
  unfold placeB at h
  simp only [Bool.and_eq_true, List.all_eq_true, decide_eq_true_eq, List.mem_range, Bool.or_eq_true, beq_iff_eq, bne_iff_ne, List.any_eq_true] at h
  obtain ⟨z1, z2, z3, z4⟩ := h
  obtain ⟨y1, y2⟩ := pick_get r pm z2
  rw [← hl] at y1 y2
  have hlen : l.length = r.length := by rw [y1, z1]
  refine ⟨hlen, fun q hq => ⟨y2 q (by omega), ?_⟩, ?_, ?_⟩
  · have hq' : q < pm.length := by omega
    unfold pl
    rw [List.getD_eq_getElem?_getD, List.getElem?_eq_getElem hq']
    exact z2 _ (List.getElem_mem hq')
  · intro i j hi hj he
    rcases z3 i (by omega) j (by omega) with hh | hh
    · exact hh
    · exact absurd he hh
  · intro i hi
    obtain ⟨q, q1, q2⟩ := z4 i hi
    exact ⟨q, by omega, q2⟩
section
variable {P : Program} {T : Tab} {env : Env} {M : Mem} {Q : Exit → Env → Mem → Prop}
def vK (P : Program) (T : Tab) (k : Nat) (o : Op) (d : Option Tmp) (rest : Env → Mem → Prop) : Env → Mem → Prop := fun env M => match k with
  | 0 => vQ P T o env (Kt rest env d) M
  | 1 => vOp P T o env (Kt (keepQ M rest) env d) M
  | _ => vOp P T o env (Kt rest env d) M
def vG (P : Program) (T : Tab) (r : List Oper) (Q : Exit → Env → Mem → Prop) : List Oper → List Nat → Env → Mem → Prop
  | [], _, env, M => Q .normal env M
  | o :: l, ks, env, M => match o.guard with
    | none => vK P T (ks.headD 0) o.op o.dst (vG P T r Q l ks.tail) env M
    | some (j, b) => vGd (yE r env j) b (vK P T (ks.headD 0) o.op o.dst (vG P T r Q l ks.tail)) (gB o.dst (vG P T r Q l ks.tail)) env M
def HeadAt (P : Program) (T : Tab) (r l : List Oper) (ks : List Nat) (Q : Exit → Env → Mem → Prop) (q : Nat) (c : Env) (M : Mem) : Prop :=
  (q = l.length ∧ Q .normal c M) ∨ ∃ o, l[q]? = some o ∧ hvy ks q = true ∧ Want r o c ∧ OpTo P o.op c M (fun v M' => (ks.getD q 0 ≠ 2 → Sub M M') ∧ vG P T r Q (l.drop (q + 1)) (ks.drop (q + 1)) (put c o.dst v) M')
theorem adv_is (hT : TabOk P T) (r : List Oper) : ∀ (l : List Oper) (ks : List Nat) (env : Env) (M : Mem), ks.length = l.length → (∀ k ∈ ks, k ≤ 2) → vG P T r Q l ks env M →
    ∃ (q : Nat) (vals : Nat → Value) (c : Nat → Env), q ≤ l.length ∧ c 0 = env ∧ (∀ i, i < q → ∃ o, l[i]? = some o ∧ LightAt P r o (c i) M (vals i) ∧ c (i + 1) = put (c i) o.dst (vals i)) ∧ HeadAt P T r l ks Q q (c q) M
  | [], ks, env, M, _, _, h => ⟨0, fun _ => undef, fun _ => env, Nat.le_refl 0, rfl, fun i hi => absurd hi (Nat.not_lt_zero i), .inl ⟨rfl, h⟩⟩
  | o :: l, [], env, M, hk, _, h => by simp at hk
  | o :: l, k :: ks, env, M, hk, h2, h => by
    have hk' : ks.length = l.length := by simpa using hk
    have h2' : ∀ k ∈ ks, k ≤ 2 := fun k hk => h2 k (List.mem_cons_of_mem _ hk)
    have more : ∀ v, LightAt P r o env M v → vG P T r Q l ks (put env o.dst v) M → ∃ (q : Nat) (vals : Nat → Value) (c : Nat → Env), q ≤ (o :: l).length ∧ c 0 = env ∧ (∀ i, i < q → ∃ o', (o :: l)[i]? = some o' ∧ LightAt P r o' (c i) M (vals i) ∧ c (i + 1) = put (c i) o'.dst (vals i)) ∧ HeadAt P T r (o :: l) (k :: ks) Q q (c q) M := by
      intro v hv hr
      obtain ⟨q, vals, c, c1, c2, c3, c4⟩ := adv_is hT r l ks _ M hk' h2' hr
      refine ⟨q + 1, fun i => match i with | 0 => v | i + 1 => vals i, fun i => match i with | 0 => env | i + 1 => c i, by simp; omega, rfl, ?_, ?_⟩
      · intro i hi
        match i with
        | 0 => exact ⟨o, rfl, hv, c2⟩
        | i + 1 =>
          obtain ⟨o', k1, k2, k3⟩ := c3 i (by omega)
          exact ⟨o', k1, k2, k3⟩
      · rcases c4 with ⟨e1, e2⟩ | ⟨o', k1, k2, k3, k4⟩
        · exact .inl ⟨by simp [e1], e2⟩
        · exact .inr ⟨o', k1, by simpa [hvy] using k2, k3, k4⟩
    have step : Want r o env → vK P T k o.op o.dst (vG P T r Q l ks) env M → ∃ (q : Nat) (vals : Nat → Value) (c : Nat → Env), q ≤ (o :: l).length ∧ c 0 = env ∧ (∀ i, i < q → ∃ o', (o :: l)[i]? = some o' ∧ LightAt P r o' (c i) M (vals i) ∧ c (i + 1) = put (c i) o'.dst (vals i)) ∧ HeadAt P T r (o :: l) (k :: ks) Q q (c q) M := by
      intro hw hv
      have hk2 := h2 k (List.mem_cons_self ..)
      have : k = 0 ∨ k = 1 ∨ k = 2 := by omega
      rcases this with rfl | rfl | rfl
      · obtain ⟨v, hq, hr⟩ := vQ_is hT o.op hv
        exact more v (.inr ⟨hw, M, Sub.refl M, hq⟩) hr
      · exact ⟨0, fun _ => undef, fun _ => env, Nat.zero_le _, rfl, fun i hi => absurd hi (Nat.not_lt_zero i), .inr ⟨o, rfl, rfl, hw, opTo_mono (vOp_is T hT o.op hv) fun v M' hq => ⟨fun _ => hq.1, hq.2⟩⟩⟩
      · exact ⟨0, fun _ => undef, fun _ => env, Nat.zero_le _, rfl, fun i hi => absurd hi (Nat.not_lt_zero i), .inr ⟨o, rfl, rfl, hw, opTo_mono (vOp_is T hT o.op hv) fun v M' hq => ⟨fun hh => absurd rfl hh, hq⟩⟩⟩
    unfold vG at h
    cases hg : o.guard with
    | none =>
      rw [hg] at h
      exact step (fun j b hh => by rw [hg] at hh; cases hh) h
    | some jb =>
      obtain ⟨j, b⟩ := jb
      rw [hg] at h
      dsimp only at h
      by_cases hy : yE r env j = some b
      · refine step (fun j' b' hh => ?_) (h.1 hy)
        rw [hg] at hh
        injection hh with hh
        injection hh with h3 h4
        subst h3; subst h4
        exact hy
      · exact more undef (.inl ⟨fun hh => hy (hh j b hg), rfl⟩) (h.2 hy)
/-- A state of a region of which some operations are done. -/
structure Sg (P : Program) (T : Tab) (r : List Oper) (pm ks : List Nat) (l : List Oper) (nt : Nat) (Q : Exit → Env → Mem → Prop) (env : Env) (M0 : Mem) (w0 : World) (listed : Array Bool) (a : Act) (w : World) (p : Nat) (vals : Nat → Value) (c : Nat → Env) (e : Env) (M' : Mem) : Prop where
  size : listed.size = l.length
  closed : ∀ (j : Nat) (o : Oper), l[j]? = some o → listed.getD (pl pm j) false = true → ∀ x ∈ o.after, Region.binds .any x = true → listed.getD x.on false = true
  hp : p ≤ l.length
  low : ∀ j, j < l.length → listed.getD (pl pm j) false = true → j < p
  fits : Fits nt e a
  rep : Rep M' w
  ext : Ext M0 w0 M' w
  c0 : c 0 = env
  cs : ∀ i, i < p → c (i + 1) = put (c i) (dstOf l i) (vals i)
  light : ∀ i o, i < p → l[i]? = some o → listed.getD (pl pm i) false = false → LightAt P r o (c i) M' (vals i)
  ea : ∀ j t, dstOf l j = some t → listed.getD (pl pm j) false = true → e t = vals j
  eb : ∀ j t, dstOf l j = some t → listed.getD (pl pm j) false = false → e t = env t
  ec : ∀ t, (∀ j, dstOf l j ≠ some t) → e t = env t
  head : HeadAt P T r l ks Q p (c p) M'
theorem want_is {r : List Oper} {o : Oper} {nt : Nat} {e : Env} {a : Act} (hf : Fits nt e a) : Region.wanted o (yielded r.toArray a.tmps) = true ↔ Want r o e := by
  unfold Region.wanted Want
  cases hg : o.guard with
  | none => simp
  | some jb =>
    obtain ⟨j, b⟩ := jb
    have hy := yielded_fits hf r.toArray j
    rw [show r.toArray.toList = r from rfl] at hy
    simp [hy]
theorem want_congr {r : List Oper} {o : Oper} {e c : Env} (h : ∀ t, guardTmp r o = some t → e t = c t) : Want r o e ↔ Want r o c := by
  unfold Want
  have key : ∀ j b, o.guard = some (j, b) → yE r e j = yE r c j := by
    intro j b hg
    unfold guardTmp at h
    rw [hg] at h
    dsimp only at h
    unfold yE
    cases hd : (r[j]?).bind (·.dst) with
    | none => rfl
    | some t => dsimp only; rw [h t hd]
  constructor
  · intro hh j b hg; rw [← key j b hg]; exact hh j b hg
  · intro hh j b hg; rw [key j b hg]; exact hh j b hg
theorem anyG_is (hT : TabOk P T) {r : List Oper} {pm ks : List Nat} {l : List Oper} {nt : Nat} (hpk : l = pickL r pm) (hk2 : ∀ k ∈ ks, k ≤ 2) (hok : okG r pm ks l = true) (hd : l.all (dstIn nt) = true) (M0 : Mem) (w0 : World) :
    ∀ (fuel : Nat) (listed : Array Bool) (a : Act) (w : World) (p : Nat) (vals : Nat → Value) (c : Nat → Env) (e : Env) (M' : Mem), left listed = fuel → Sg P T r pm ks l nt Q env M0 w0 listed a w p vals c e M' → wpAny P .any r.toArray (Way nt M0 w0 Q) fuel listed a w := by
  unfold okG at hok
  simp only [Bool.and_eq_true, List.all_eq_true, beq_iff_eq, List.mem_range, Bool.or_eq_true, bne_iff_ne] at hok
  obtain ⟨hplace, hkl, hsel0, hao, hch, hsk, hbk⟩ := hok
  obtain ⟨gl, gp, gi, gs⟩ := place_spec hpk hplace
  have dof : ∀ (i : Nat) (o : Oper), l[i]? = some o → dstOf l i = o.dst := by intro i o h; unfold dstOf; rw [h]; rfl
  have dlt : ∀ j t, dstOf l j = some t → j < l.length := by
    intro j t h
    rcases Nat.lt_or_ge j l.length with h1 | h1
    · exact h1
    · unfold dstOf at h; rw [List.getElem?_eq_none h1] at h; cases h
  have uniq : ∀ i j t, dstOf l i = some t → dstOf l j = some t → i = j := by
    intro i j t h1 h2
    have := (hao i (dlt i t h1) j (dlt j t h2)).1
    unfold apartB at this
    rw [h1, h2] at this
    by_cases h : i = j
    · exact h
    · simp [h] at this
  have waits : ∀ (i j : Nat) (o : Oper), l[i]? = some o → Region.waitsFor .any r.toArray (pl pm i) (pl pm j) = true → ∃ x ∈ o.after, Region.binds .any x = true ∧ x.on = pl pm j := by
    intro i j o ho h
    obtain ⟨oj, h1, x, h2, h3, h4⟩ := Region.waitsFor_spec h
    have hi : i < l.length := (List.getElem?_eq_some_iff.1 ho).1
    rw [List.getElem?_toArray, ← (gp i hi).1, ho] at h1
    injection h1 with h1
    subst h1
    exact ⟨x, h2, h3, h4⟩
  have ord : ∀ i j t, i ≠ j → i < l.length → dstOf l j = some t → gReads r l i t = true → (j < i ∧ Region.waitsFor .any r.toArray (pl pm i) (pl pm j) = true) ∨ (i < j ∧ Region.waitsFor .any r.toArray (pl pm j) (pl pm i) = true) := by
    intro i j t hij hi hj hr
    have := (hao i hi j (dlt j t hj)).2
    unfold orderG at this
    rw [hj] at this
    simpa [hij, hr] using this
  have back : ∀ (i : Nat) (o : Oper), r[i]? = some o → ∀ e ∈ o.after, Region.binds .any e = true → e.on < i := by
    intro i o ho e he hb
    have := hbk i (List.getElem?_eq_some_iff.1 ho).1
    unfold backB at this
    rw [ho] at this
    have := Array.all_eq_true'.1 this e he
    simpa [hb] using this
  -- values along the order of the proof
  have p1 : ∀ {p : Nat} {vals : Nat → Value} {c : Nat → Env}, (∀ i, i < p → c (i + 1) = put (c i) (dstOf l i) (vals i)) → ∀ i, i ≤ p → ∀ j t, j < i → dstOf l j = some t → c i t = vals j := by
    intro p vals c hc i
    induction i with
    | zero => intro _ j t hj; omega
    | succ i ih =>
      intro hi j t hj hjt
      rw [hc i (by omega)]
      by_cases hij : j = i
      · subst hij; exact put_hit _ _ hjt
      · rw [put_miss _ _ (fun hh => hij (uniq _ _ t hjt hh))]
        exact ih (by omega) j t (by omega) hjt
  have p2 : ∀ {p : Nat} {vals : Nat → Value} {c : Nat → Env}, c 0 = env → (∀ i, i < p → c (i + 1) = put (c i) (dstOf l i) (vals i)) → ∀ i, i ≤ p → ∀ t, (∀ j, j < i → dstOf l j ≠ some t) → c i t = env t := by
    intro p vals c hc0 hc i
    induction i with
    | zero => intro _ t _; rw [hc0]
    | succ i ih =>
      intro hi t ht
      rw [hc i (by omega), put_miss _ _ (ht i (by omega))]
      exact ih (by omega) t fun j hj => ht j (by omega)
  have fin : ∀ {listed : Array Bool} {a : Act} {w : World} {p : Nat} {vals : Nat → Value} {c : Nat → Env} {e : Env} {M' : Mem}, Sg P T r pm ks l nt Q env M0 w0 listed a w p vals c e M' → (∀ j, j < l.length → listed.getD (pl pm j) false = true) → Way nt M0 w0 Q .normal a w := by
    intro listed a w p vals c e M' h all
    have hpn : p = l.length := by
      rcases Nat.lt_or_ge p l.length with h1 | h1
      · have := h.low p h1 (all p h1); omega
      · have := h.hp; omega
    have hQ : Q .normal (c p) M' := by
      rcases h.head with ⟨_, hq⟩ | ⟨o, ho, _⟩
      · exact hq
      · rw [hpn, List.getElem?_eq_none (Nat.le_refl _)] at ho; cases ho
    have he : e = c p := by
      funext t
      by_cases hw : ∃ j, dstOf l j = some t
      · obtain ⟨j, hj⟩ := hw
        rw [h.ea j t hj (all j (dlt j t hj))]
        exact (p1 h.cs p (Nat.le_refl p) j t (by rw [hpn]; exact dlt j t hj) hj).symm
      · have hno : ∀ j, dstOf l j ≠ some t := fun j hh => hw ⟨j, hh⟩
        rw [h.ec t hno]
        exact (p2 h.c0 h.cs p (Nat.le_refl p) t fun j _ => hno j).symm
    exact ⟨c p, M', he ▸ h.fits, h.rep, h.ext, hQ⟩
  intro fuel
  induction fuel with
  | zero =>
    intro listed a w p vals c e M' hf h
    have allO : ∀ j, j < r.length → listed.getD j false = true := by
      intro j hj
      have h0 : listed.toList.count false = 0 := hf
      rw [List.count_eq_zero] at h0
      have hsz := h.size
      rw [Array.getD_eq_getD_getElem?, Array.getElem?_eq_getElem (by omega)]
      simp only [Option.getD_some]
      cases hb : listed[j] with
      | true => rfl
      | false => exact absurd (by rw [← hb]; exact Array.mem_toList_iff.2 (Array.getElem_mem _)) h0
    have hready : Region.ready .any r.toArray listed = [] := by
      rw [List.eq_nil_iff_forall_not_mem]
      intro i hi
      obtain ⟨h1, o, h2, _⟩ := mem_ready.1 hi
      have := allO i (by rw [List.getElem?_toArray] at h2; exact (List.getElem?_eq_some_iff.1 h2).1)
      rw [(getD_of h1).1] at this
      cases this
    exact ⟨hready, fin h fun j hj => allO _ (gp j hj).2⟩
  | succ fuel ih =>
    intro listed a w p vals c e M' hf h
    refine ⟨fun hr => ?_, fun i hi => ?_⟩
    · have allO : ∀ j, j < r.length → listed.getD j false = true := by
        intro j
        induction j using Nat.strongRecOn with
        | _ j ihj =>
          intro hj
          cases hb : listed.getD j false with
          | true => rfl
          | false =>
            exfalso
            have hsz := h.size
            have : j ∈ Region.ready .any r.toArray listed := by
              refine mem_ready.2 ⟨?_, r[j], by simp [hj], ?_⟩
              · rw [Array.getD_eq_getD_getElem?, Array.getElem?_eq_getElem (by omega)] at hb ⊢
                exact hb
              · intro x hx hbx
                have hlt := back j r[j] (List.getElem?_eq_getElem hj) x hx hbx
                exact ihj x.on hlt (by omega)
            rw [hr] at this
            cases this
      exact fin h fun j hj => allO _ (gp j hj).2
    · obtain ⟨h1, o, h2, h3⟩ := mem_ready.1 hi
      rw [List.getElem?_toArray] at h2
      obtain ⟨i, hil, rfl⟩ := gs _ (List.getElem?_eq_some_iff.1 h2).1
      have h2r := h2
      rw [← (gp i hil).1] at h2
      obtain ⟨hu, hul⟩ := getD_of h1
      have hsz := h.size
      have hdo := List.all_eq_true.1 hd o (List.mem_of_getElem? h2)
      have hsel : ∀ cs b, o.op ≠ .select cs b := fun cs b => Region.noSelect_spec hsel0 _ o cs b (by rw [List.getElem?_toArray]; exact h2r)
      have hleft : left (listed.setIfInBounds (pl pm i) true) = fuel := by
        unfold left at *
        rw [Array.toList_setIfInBounds]
        have := left_set listed.toList _ hul
        omega
      have hpi := (gp i hil).2
      have hset0 : ∀ j, (listed.setIfInBounds (pl pm i) true).getD j false = if j = pl pm i then true else listed.getD j false := fun j => getD_set' (by omega)
      have hset : ∀ j, j < l.length → (listed.setIfInBounds (pl pm i) true).getD (pl pm j) false = if j = i then true else listed.getD (pl pm j) false := by
        intro j hj
        rw [hset0]
        by_cases hji : j = i
        · rw [if_pos (by rw [hji]), if_pos hji]
        · rw [if_neg (fun hh => hji (gi j i hj hil hh)), if_neg hji]
      have hclosed : ∀ (j : Nat) (o' : Oper), l[j]? = some o' → (listed.setIfInBounds (pl pm i) true).getD (pl pm j) false = true → ∀ x ∈ o'.after, Region.binds .any x = true → (listed.setIfInBounds (pl pm i) true).getD x.on false = true := by
        intro j o' ho' hj x hx hb
        have hjl : j < l.length := (List.getElem?_eq_some_iff.1 ho').1
        rw [hset j hjl] at hj
        rw [hset0]
        split
        · rfl
        · by_cases hji : j = i
          · subst hji
            rw [h2] at ho'
            injection ho' with ho'
            subst ho'
            exact h3 x hx hb
          · rw [if_neg hji] at hj
            exact h.closed j o' ho' hj x hx hb
      have hdi := dof i o h2
      -- no operation behind the head is ready
      have hip : i ≤ p := by
        rcases Nat.lt_or_ge p i with hlt | hge
        · exfalso
          rcases h.head with ⟨hpn, _⟩ | ⟨o', _, hh, _⟩
          · omega
          · have hci := hch i hil
            unfold chainB at hci
            rw [Bool.or_eq_true, List.all_eq_true, List.any_eq_true] at hci
            rcases hci with hno | ⟨j, hj, hjj⟩
            · have := hno p (List.mem_range.2 hlt)
              rw [hh] at this
              cases this
            · rw [Bool.and_eq_true] at hjj
              obtain ⟨x, k1, k2, k3⟩ := waits i j o h2 hjj.2
              have hlj := h3 x k1 k2
              rw [k3] at hlj
              have hjl : j < l.length := by have := List.mem_range.1 hj; omega
              have hjp := h.low j hjl hlj
              have := hjj.1
              unfold plainTo at this
              have := List.all_eq_true.1 this p (List.mem_range.2 hlt)
              rw [hh] at this
              simp at this
              omega
        · exact hge
      -- what the operation reads is what it reads in the order of the proof
      have same : ∀ t, gReads r l i t = true → e t = c i t := by
        intro t ht
        by_cases hwr : ∃ j, dstOf l j = some t
        · obtain ⟨j, hj⟩ := hwr
          by_cases hji : j = i
          · subst hji
            rw [h.eb j t hj hu]
            exact (p2 h.c0 h.cs j hip t fun j' hj' hh => by have := uniq j' j t hh hj; omega).symm
          · rcases ord i j t (Ne.symm hji) hil hj ht with ⟨hlt, hw⟩ | ⟨hlt, hw⟩
            · obtain ⟨x, k1, k2, k3⟩ := waits i j o h2 hw
              have hlj := h3 x k1 k2
              rw [k3] at hlj
              rw [h.ea j t hj hlj]
              exact (p1 h.cs i hip j t hlt hj).symm
            · have hjl := dlt j t hj
              have hnl : listed.getD (pl pm j) false = false := by
                cases hb : listed.getD (pl pm j) false with
                | false => rfl
                | true =>
                  obtain ⟨x, k1, k2, k3⟩ := waits j i l[j] (List.getElem?_eq_getElem hjl) hw
                  have := h.closed j l[j] (List.getElem?_eq_getElem hjl) hb x k1 k2
                  rw [k3, hu] at this
                  cases this
              rw [h.eb j t hj hnl]
              exact (p2 h.c0 h.cs i hip t fun j' hj' hh => by have := uniq j' j t hh hj; omega).symm
        · have hno : ∀ j, dstOf l j ≠ some t := fun j hh => hwr ⟨j, hh⟩
          rw [h.ec t hno]
          exact (p2 h.c0 h.cs i hip t fun j _ => hno j).symm
      have hx : ∀ x ∈ o.op.operands, ev e x = ev (c i) x := by
        intro x hx
        cases x with
        | const v => rfl
        | global g => rfl
        | func f => rfl
        | tmp t => exact same t (by unfold gReads; rw [reads_mem h2 hx]; rfl)
      have hwant : Want r o e ↔ Want r o (c i) := want_congr fun t ht => same t (by unfold gReads; rw [h2]; simp [ht])
      unfold wpOp
      rw [List.getElem?_toArray, h2r]
      dsimp only
      by_cases hin : i < p
      · -- an operation before the head
        have hL := h.light i o hin h2 hu
        have hnext : ∀ w', Rep M' w' → Ext M' w M' w' → wpAny P .any r.toArray (Way nt M0 w0 Q) fuel (listed.setIfInBounds (pl pm i) true) (a.put o.dst (vals i)) w' := by
          intro w' hr' he'
          refine ih _ _ _ p vals c (put e o.dst (vals i)) M' hleft ⟨by simp [hsz], hclosed, h.hp, ?_, h.fits.put (dstIn_spec hdo) _, hr', h.ext.trans he', h.c0, h.cs, ?_, ?_, ?_, ?_, h.head⟩
          · intro j hj hlj
            rw [hset j hj] at hlj
            by_cases hji : j = i
            · omega
            · rw [if_neg hji] at hlj; exact h.low j hj hlj
          · intro j o' hj ho' hlj
            rw [hset j (by have := h.hp; omega)] at hlj
            by_cases hji : j = i
            · rw [if_pos hji] at hlj; cases hlj
            · rw [if_neg hji] at hlj; exact h.light j o' hj ho' hlj
          · intro j t hj hlj
            rw [hset j (dlt j t hj)] at hlj
            by_cases hji : j = i
            · subst hji; exact put_hit _ _ (by rw [← hdi]; exact hj)
            · rw [if_neg hji] at hlj
              rw [put_miss _ _ (by rw [← hdi]; exact fun hh => hji (uniq j i t hj hh))]
              exact h.ea j t hj hlj
          · intro j t hj hlj
            rw [hset j (dlt j t hj)] at hlj
            by_cases hji : j = i
            · rw [if_pos hji] at hlj; cases hlj
            · rw [if_neg hji] at hlj
              rw [put_miss _ _ (by rw [← hdi]; exact fun hh => hji (uniq j i t hj hh))]
              exact h.eb j t hj hlj
          · intro t ht
            rw [put_miss _ _ (by rw [← hdi]; exact ht i)]
            exact h.ec t ht
        rcases hL with ⟨hw, hv⟩ | ⟨hw, M1, hsub, q2⟩
        · rw [if_neg (by rw [want_is h.fits, hwant]; exact hw), ← hv]
          exact hnext w h.rep (Ext.refl _ _)
        · rw [if_pos (by rw [want_is h.fits, hwant]; exact hw)]
          refine Or.inl ?_
          unfold Oper.wp
          have hex : execOp a.eval o = execOp (ev (c i)) o := by rw [h.fits.ev]; exact execOp_congr o hsel hx
          rw [hex]
          rcases q2 w o (h.rep.sub hsub) rfl with hr | ⟨f, args, hr, hcall⟩
          · rw [hr]
            exact hnext w h.rep (Ext.refl _ _)
          · rw [hr]
            refine hcall.mono ?_
            rintro e' w' ⟨rfl, k1, k2⟩
            exact hnext w' (rep_frame h.rep hsub k1 k2) ⟨k2.os, k2.tape, k2.output, k2.size, fun b hb ho => k2.block b hb (fun hh => ho (owns_sub hsub hh)), fun b hb => .inl hb⟩
      · -- the head
        have hieq : i = p := by omega
        subst hieq
        rcases h.head with ⟨hpn, _⟩ | ⟨o', ho', hh, hw, hO⟩
        · omega
        · rw [h2] at ho'
          injection ho' with ho'
          subst ho'
          rw [if_pos (by rw [want_is h.fits, hwant]; exact hw)]
          refine Or.inl ?_
          unfold Oper.wp
          refine opTo_at (nt := nt) (c := c i) (e := e) hsel hdo hO h.fits (fun x hxx => (hx x hxx).symm) ?_ h.rep _ _ ?_
          · intro t ht
            have hno : ∀ j, dstOf l j ≠ some t := fun j hh => by
              have hjl := dlt j t hh
              have := dstIn_spec (List.all_eq_true.1 hd l[j] (List.getElem_mem hjl)) t (by rw [← dof j l[j] (List.getElem?_eq_getElem hjl)]; exact hh)
              exact absurd this (Nat.not_lt.2 ht)
            rw [p2 h.c0 h.cs i hip t fun j _ => hno j, ← h.ec t hno]
            have := congrFun h.fits.ev (.tmp t)
            simp only [Act.eval, ev] at this
            rw [← this, Array.getD_eq_getD_getElem?, Array.getElem?_eq_none (by rw [h.fits.size]; exact ht)]
            rfl
          · intro v M'' w' k1 k2 k3
            obtain ⟨k3, k4⟩ := k3
            obtain ⟨q, vals', c', c1, c2, c3, c4⟩ := adv_is hT r _ _ _ _ (by rw [List.length_drop, List.length_drop, hkl]) (fun k hk => hk2 k (List.mem_of_mem_drop hk)) k4
            rw [List.length_drop] at c1
            have hsinks : ks.getD i 0 = 2 → ∀ j, j < i → listed.getD (pl pm j) false = true := by
              intro h22
              have hs := hsk i hil
              rcases hs with hs | hs
              · exact absurd h22 hs
              · unfold sinkAt at hs
                have key : ∀ d j, i - j = d → j < i → listed.getD (pl pm j) false = true := by
                  intro d
                  induction d using Nat.strongRecOn with
                  | _ d ihd =>
                    intro j hd' hj
                    obtain ⟨j', r1, r2⟩ := List.any_eq_true.1 (List.all_eq_true.1 hs j (List.mem_range.2 hj))
                    rw [Bool.and_eq_true, decide_eq_true_eq] at r2
                    have hj'i : j' ≤ i := by have := List.mem_range.1 r1; omega
                    by_cases hji : j' = i
                    · subst hji
                      obtain ⟨x, k1, k2, k3⟩ := waits j' j o h2 r2.2
                      have := h3 x k1 k2
                      rw [k3] at this
                      exact this
                    · have hlj := ihd (i - j') (by omega) j' rfl (by omega)
                      have hjl : j' < l.length := by omega
                      obtain ⟨x, k1, k2, k3⟩ := waits j' j l[j'] (List.getElem?_eq_getElem hjl) r2.2
                      have := h.closed j' l[j'] (List.getElem?_eq_getElem hjl) hlj x k1 k2
                      rw [k3] at this
                      exact this
                exact fun j hj => key _ j rfl hj
            refine ih _ _ _ (i + 1 + q) (fun j => if j < i then vals j else if j = i then v else vals' (j - (i + 1))) (fun j => if j ≤ i then c j else c' (j - (i + 1))) (put e o.dst v) M'' hleft ⟨by simp [hsz], hclosed, by omega, ?_, h.fits.put (dstIn_spec hdo) _, k1, h.ext.trans k2, by simp [h.c0], ?_, ?_, ?_, ?_, ?_, ?_⟩
            · intro j hj hlj
              rw [hset j hj] at hlj
              by_cases hji : j = i
              · omega
              · rw [if_neg hji] at hlj; have := h.low j hj hlj; omega
            · intro j hj
              rcases Nat.lt_trichotomy j i with hlt | heq | hgt
              · simp only [if_pos (show j + 1 ≤ i by omega), if_pos (show j ≤ i by omega), if_pos hlt]
                exact h.cs j hlt
              · subst heq
                simp only [if_neg (show ¬ j + 1 ≤ j by omega), if_pos (Nat.le_refl j), if_neg (Nat.lt_irrefl j), if_true]
                rw [Nat.sub_self, c2, hdi]
              · obtain ⟨o', q1, q2, q3⟩ := c3 (j - (i + 1)) (by omega)
                simp only [if_neg (show ¬ j + 1 ≤ i by omega), if_neg (show ¬ j ≤ i by omega), if_neg (show ¬ j < i by omega), if_neg (show ¬ j = i by omega)]
                rw [List.getElem?_drop, show i + 1 + (j - (i + 1)) = j by omega] at q1
                rw [dof j o' q1, ← q3]
                congr 1
                omega
            · intro j o' hj ho' hlj
              have hjl : j < l.length := (List.getElem?_eq_some_iff.1 ho').1
              rw [hset j hjl] at hlj
              by_cases hji : j = i
              · rw [if_pos hji] at hlj; cases hlj
              · rw [if_neg hji] at hlj
                rcases Nat.lt_or_ge j i with hlt | hge
                · simp only [if_pos (show j ≤ i by omega), if_pos hlt]
                  rcases h.light j o' hlt ho' hlj with hA | ⟨hA, M1, hB, hC⟩
                  · exact .inl hA
                  · refine .inr ⟨hA, M1, hB.trans (k3 fun h22 => ?_), hC⟩
                    rw [hsinks h22 j hlt] at hlj
                    cases hlj
                · obtain ⟨o2, q1, q2, q3⟩ := c3 (j - (i + 1)) (by omega)
                  rw [List.getElem?_drop, show i + 1 + (j - (i + 1)) = j by omega, ho'] at q1
                  injection q1 with q1
                  subst q1
                  simp only [if_neg (show ¬ j ≤ i by omega), if_neg (show ¬ j < i by omega), if_neg (show ¬ j = i by omega)]
                  exact q2
            · intro j t hj hlj
              rw [hset j (dlt j t hj)] at hlj
              by_cases hji : j = i
              · subst hji
                simp only [if_neg (Nat.lt_irrefl j), if_true]
                exact put_hit _ _ (by rw [← hdi]; exact hj)
              · rw [if_neg hji] at hlj
                have := h.low j (dlt j t hj) hlj
                simp only [if_pos this]
                rw [put_miss _ _ (by rw [← hdi]; exact fun hh => hji (uniq j i t hj hh))]
                exact h.ea j t hj hlj
            · intro j t hj hlj
              rw [hset j (dlt j t hj)] at hlj
              by_cases hji : j = i
              · rw [if_pos hji] at hlj; cases hlj
              · rw [if_neg hji] at hlj
                rw [put_miss _ _ (by rw [← hdi]; exact fun hh => hji (uniq j i t hj hh))]
                exact h.eb j t hj hlj
            · intro t ht
              rw [put_miss _ _ (by rw [← hdi]; exact ht i)]
              exact h.ec t ht
            · have e1 : (if i + 1 + q ≤ i then c (i + 1 + q) else c' (i + 1 + q - (i + 1))) = c' q := by
                rw [if_neg (by omega)]; congr 1; omega
              show HeadAt P T r l ks Q (i + 1 + q) (if i + 1 + q ≤ i then c (i + 1 + q) else c' (i + 1 + q - (i + 1))) M''
              rw [e1]
              rcases c4 with ⟨d1, d2⟩ | ⟨o2, d1, d2, d3, d4⟩
              · rw [List.length_drop] at d1
                exact .inl ⟨by omega, d2⟩
              · refine .inr ⟨o2, ?_, ?_, d3, ?_⟩
                · rw [List.getElem?_drop] at d1; exact d1
                · unfold hvy at d2 ⊢
                  rw [List.getD_eq_getElem?_getD, List.getElem?_drop] at d2
                  rw [List.getD_eq_getElem?_getD]
                  exact d2
                · rw [List.getD_eq_getElem?_getD, List.getElem?_drop, List.drop_drop, List.drop_drop, ← List.getD_eq_getElem?_getD] at d4
                  exact d4
/-- A region that draws its order: pm is the order of the proof, ks tells of each operation there whether it reads (0), makes memory and keeps what was told (1), or does as it likes behind all that it waits for (2). -/
theorem draws (pm ks : List Nat) (hT : TabOk P T) {nt id : Nat} {r : List Oper} (hm : P.follows .mixedOrders = true) (hk : ks.all (fun k => decide (k ≤ 2)) = true) (hB : okG r pm ks (pickL r pm) = true) (hd : (pickL r pm).all (dstIn nt) = true) (h : vG P T r Q (pickL r pm) ks env M) : CodeTo P nt (.region id r.toArray true) Q env M := by
  intro M0 w0 a w h1 h2 h3
  have hk' : ∀ k ∈ ks, k ≤ 2 := fun k hkk => by have := List.all_eq_true.1 hk k hkk; simpa using this
  have hkl : ks.length = (pickL r pm).length := by
    have := hB
    unfold okG at this
    simp only [Bool.and_eq_true, beq_iff_eq] at this
    exact this.2.1
  have hplace : placeB r pm = true := by
    have := hB
    unfold okG at this
    simp only [Bool.and_eq_true] at this
    exact this.1
  obtain ⟨gl, gp, gi, gs⟩ := place_spec rfl hplace
  obtain ⟨q, vals, c, c1, c2, c3, c4⟩ := adv_is hT r _ _ _ _ hkl hk' h
  refine wp_region_any hm ?_
  refine anyG_is hT rfl hk' hB hd M0 w0 _ _ _ _ q vals c env M (by simp [left_new]) ⟨by simp [gl], ?_, c1, ?_, h1, fun b B hB' => Blk.holds_of (w := w) rfl (h2 b B hB'), ⟨h3.os, h3.tape, h3.output, h3.size, h3.block, h3.own⟩, c2, ?_, ?_, ?_, ?_, ?_, c4⟩
  · intro j o ho hj
    rw [new_false] at hj
    cases hj
  · intro j hj hlj
    rw [new_false] at hlj
    cases hlj
  · intro i hi
    obtain ⟨o, q1, q2, q3⟩ := c3 i hi
    rw [q3]
    unfold dstOf
    rw [q1]; rfl
  · intro i o hi ho _
    obtain ⟨o', q1, q2, q3⟩ := c3 i hi
    rw [ho] at q1
    injection q1 with q1
    subst q1
    exact q2
  · intro j t _ hlj
    rw [new_false] at hlj
    cases hlj
  · intro j t _ _; rfl
  · intro t _; rfl
end
section
variable {P : Program} {T : Tab} {env : Env} {M : Mem} {Q : Exit → Env → Mem → Prop} {r l : List Oper} {ks : List Nat}
@[simp] theorem vG_nil : vG P T r Q [] ks env M = Q .normal env M := nr (by unfold vG; rfl)
@[simp] theorem vG_plain {d : Option Tmp} {o : Op} {ty : TypeId} {pos : String} {af : Array Edge} {k : Nat} : vG P T r Q (⟨d, o, ty, pos, af, none⟩ :: l) (k :: ks) env M = vK P T k o d (vG P T r Q l ks) env M := nr rfl
@[simp] theorem vG_guard {d : Option Tmp} {o : Op} {ty : TypeId} {pos : String} {af : Array Edge} {j k : Nat} {b : Bool} : vG P T r Q (⟨d, o, ty, pos, af, some (j, b)⟩ :: l) (k :: ks) env M = vGd (yE r env j) b (vK P T k o d (vG P T r Q l ks)) (gB d (vG P T r Q l ks)) env M := nr rfl
@[simp] theorem vK_0 {o : Op} {d : Option Tmp} {rest : Env → Mem → Prop} : vK P T 0 o d rest env M = vQ P T o env (Kt rest env d) M := nr rfl
@[simp] theorem vK_1 {o : Op} {d : Option Tmp} {rest : Env → Mem → Prop} : vK P T 1 o d rest env M = vOp P T o env (Kt (keepQ M rest) env d) M := nr rfl
@[simp] theorem vK_2 {o : Op} {d : Option Tmp} {rest : Env → Mem → Prop} : vK P T 2 o d rest env M = vOp P T o env (Kt rest env d) M := nr rfl
end
end Go.Proofs.Ytbefijbmgmbphaa
