/- The calculus, continued: operations that read or write memory. -/
import Derived.Test.YtbefijbmgmbphaaE1
import Derived.Laws.Cells
import Derived.Laws.BytesString
import Derived.Laws.BytesArg
import Derived.ChangeKeysEq
namespace Go.Proofs.Ytbefijbmgmbphaa
open Go
set_option linter.unusedSimpArgs false

/-! ### Memory as told -/
theorem put_same (M : Mem) (b : Nat) (B : Blk) : (M.put b B) b = some B := by simp [Mem.put]
theorem put_ne (M : Mem) {b i : Nat} (B : Blk) (h : i ≠ b) : (M.put b B) i = M i := by simp [Mem.put, h]
theorem put_none {M : Mem} {b i : Nat} {B : Blk} : (M.put b B) i = none ↔ i ≠ b ∧ M i = none := by
  unfold Mem.put; split <;> simp_all
/-- A block's content told anew. -/
def Mem.set (M : Mem) (b : Nat) (B : Blk) : Mem := M.put b B
theorem set_same (M : Mem) (b : Nat) (B B' : Blk) : (M.put b B).set b B' = M.put b B' := by
  funext i; simp only [Mem.set, Mem.put]; split <;> rfl
theorem set_ne (M : Mem) {b g : Nat} (B B' : Blk) (h : g ≠ b) : (M.put b B).set g B' = (M.set g B').put b B := by
  funext i; simp only [Mem.set, Mem.put]; split <;> (try split) <;> (try rfl); subst_vars; exact absurd rfl h
theorem set_set (M : Mem) (b : Nat) (B B' : Blk) : (M.set b B).set b B' = M.set b B' := set_same M b B B'
theorem del_same (M : Mem) (b : Nat) (B : Blk) (h : M b = none) : (M.put b B).del b = M := by
  funext i; simp only [Mem.del, Mem.put]; split
  · subst_vars; exact h.symm
  · rfl
theorem del_ne (M : Mem) {b g : Nat} (B : Blk) (h : g ≠ b) : (M.put b B).del g = (M.del g).put b B := by
  funext i; simp only [Mem.del, Mem.put]; split <;> (try split) <;> (try rfl); subst_vars; exact absurd rfl h
theorem Rep.fresh {M : Mem} {w : World} (h : Rep M w) {b : Nat} (hb : w.heap.size ≤ b) : M b = none := by
  cases hM : M b with
  | none => rfl
  | some B =>
    have := h b B hM
    have hn : w.heap[b]? = none := Array.getElem?_eq_none hb
    cases B with
    | cells own xs tot => obtain ⟨c, e, fr, h1, _⟩ := this; rw [hn] at h1; cases h1
    | obj o => have h1 := this.1; rw [hn] at h1; cases h1
theorem Blk.holds_of {w w' : World} {b : Nat} (h : w'.heap[b]? = w.heap[b]?) {B : Blk} (hB : B.holds w b) : B.holds w' b := by
  cases B with
  | cells own xs tot => simp only [Blk.holds] at *; rw [h]; exact hB
  | obj o => simp only [Blk.holds] at *; rw [h]; exact hB
/-- The first cells of a block from a place on. -/
def Mem.sub? (M : Mem) (b o n : Nat) : Option (List Value) :=
  match M b with
  | some (.cells _ xs _) => if o + n ≤ xs.length then some ((xs.drop o).take n) else none
  | _ => none
theorem Rep.sub? {M : Mem} {w : World} (h : Rep M w) {b o n : Nat} {l : List Value} (hl : M.sub? b o n = some l) : l.length = n ∧ ∀ j v, l[j]? = some v → w.cell? ⟨b, o + j, none⟩ = some v := by
  unfold Mem.sub? at hl
  split at hl
  · rename_i own xs tot hM
    split at hl
    · rename_i hle
      injection hl with hl
      subst hl
      refine ⟨by rw [List.length_take, List.length_drop]; omega, fun j v hv => h.cell ?_⟩
      have hj : j < n := by
        rcases Nat.lt_or_ge j n with h | h
        · exact h
        · rw [List.getElem?_eq_none (by rw [List.length_take]; omega)] at hv; cases hv
      rw [List.getElem?_take_of_lt hj, List.getElem?_drop] at hv
      simp [Mem.get?, hM, hv]
    · cases hl
  · cases hl

/-! ### Programs of the machine's own -/
def SemTo (P : Program) {α : Type} (s : Sem α) (M : Mem) (K : α → Mem → Prop) : Prop :=
  ∀ w, Rep M w → ∃ a w' M', s.run P w = .ok a w' ∧ Rep M' w' ∧ Ext M w M' w' ∧ K a M'
section
variable {P : Program} {α β : Type} {M : Mem}
theorem semTo_run {s : Sem α} {K : α → Mem → Prop} (a : α) (h : ∀ w, Rep M w → s.run P w = .ok a w) (hk : K a M) : SemTo P s M K :=
  fun w hw => ⟨a, w, M, h w hw, hw, Ext.refl _ _, hk⟩
theorem semTo_pure {K : α → Mem → Prop} {a : α} (hk : K a M) : SemTo P (pure a) M K := semTo_run a (fun _ _ => rfl) hk
theorem semTo_bind {s : Sem α} {f : α → Sem β} {K : β → Mem → Prop} (h : SemTo P s M fun a M' => SemTo P (f a) M' K) : SemTo P (s >>= f) M K := by
  intro w hw
  obtain ⟨a, w1, M1, h1, h2, h3, h4⟩ := h w hw
  obtain ⟨b, w2, M2, k1, k2, k3, k4⟩ := h4 w1 h2
  exact ⟨b, w2, M2, by rw [Sem.run_bind, h1, Result.andThen_ok, k1], k2, h3.trans k3, k4⟩
/-- A new block. -/
theorem semTo_new {K : Nat → Mem → Prop} {cells : Array Value} {e' : TypeId} (h : ∀ b, M b = none → K b (M.put b (.cells true cells.toList cells.size))) : SemTo P (newObj (.cells cells e')) M K := by
  intro w hw
  have hf := hw.fresh (Nat.le_refl w.heap.size)
  refine ⟨w.heap.size, _, _, run_newObj P w _, ?_, ?_, h _ hf⟩
  · intro i B hB
    by_cases e : i = w.heap.size
    · subst e
      rw [put_same] at hB
      injection hB with hB
      subst hB
      exact ⟨cells, e', (0, 0), by simp, rfl, ⟨[], by simp⟩, fun _ => .inl rfl⟩
    · rw [put_ne _ _ e] at hB
      have hh := hw i B hB
      have hlt : i < w.heap.size := by
        rcases Nat.lt_or_ge i w.heap.size with h | h
        · exact h
        · rw [hw.fresh h] at hB; cases hB
      exact Blk.holds_of (w := w) (by simp [Array.getElem?_push, Nat.ne_of_lt hlt]) hh
  · refine ⟨rfl, rfl, rfl, by simp, fun i hi _ => by simp [Array.getElem?_push, Nat.ne_of_lt hi], fun i ⟨B, h1, h2⟩ => ?_⟩
    by_cases e : i = w.heap.size
    · exact .inr (by omega)
    · rw [put_ne _ _ e] at h1; exact .inl ⟨B, h1, h2⟩
theorem semTo_newRow {K : Addr → Mem → Prop} {cells : Array Value} {e : TypeId} (h : ∀ b, M b = none → K ⟨b, 0, none⟩ (M.put b (.cells true cells.toList cells.size))) : SemTo P (newRow e cells) M K := by
  unfold newRow
  exact semTo_bind (semTo_new fun b hb => semTo_pure (h b hb))
theorem semTo_choose {K : Nat → Mem → Prop} {q : Question} (hq : q.forced = false) (h : ∀ t, K (q.cut t) M) : SemTo P (choose q) M K := by
  intro w hw
  refine ⟨_, _, M, (run_choose P w q).trans (if_neg (by simp [hq])), ?_, ⟨rfl, rfl, rfl, Nat.le_refl _, fun _ _ _ => rfl, fun _ h => .inl h⟩, h _⟩
  intro b B hB
  exact Blk.holds_of (w := w) rfl (hw b B hB)
/-- The mark behind bytes made of a string: no cell is told by it. -/
theorem semTo_markStringish {K : Unit → Mem → Prop} {b : Nat} {xs : List Value} {tot : Nat} (hb : M b = some (.cells true xs tot)) (h : K () M) : SemTo P (markStringish ⟨b, 0, none⟩) M K := by
  intro w hw
  obtain ⟨c, e, fr, h1, h2, h3, h4⟩ := hw b _ hb
  have hs : w.shape? b = some (e, c.size) := by simp [World.shape?, h1]
  refine ⟨(), w.freeze ⟨b, c.size, none⟩ 1, M, by simp [markStringish, hs], ?_, ?_, h⟩
  · intro i B hB
    by_cases ei : i = b
    · subst ei
      rw [hb] at hB; injection hB with hB; subst hB
      refine ⟨c, e, if fr.1 == fr.2 then (c.size, c.size + 1) else (min fr.1 c.size, max fr.2 (c.size + 1)), ?_, h2, h3, fun ho => ?_⟩
      · simp only [World.freeze, Nat.one_ne_zero, if_false, Array.getElem?_modify, if_pos, h1, Option.map_some]
      · have := h4 ho
        split
        · right; show tot ≤ c.size; omega
        · rename_i hne
          simp only [beq_iff_eq] at hne
          right; show tot ≤ min fr.1 c.size; omega
    · exact Blk.holds_of (w := w) (by simp [World.freeze, Array.getElem?_modify, Ne.symm ei]) (hw i B hB)
  · refine ⟨rfl, rfl, rfl, by simp [World.freeze], fun i hi ho => ?_, fun _ h => .inl h⟩
    have ei : i ≠ b := fun e => ho (e ▸ ⟨_, hb, rfl⟩)
    simp [World.freeze, Array.getElem?_modify, Ne.symm ei]

def flatV : Value → Bool
  | .agg _ | .tuple _ => false
  | _ => true
theorem flat_one {v : Value} (h : flatV v = true) : v.oneCell' = true := by cases v <;> first | rfl | cases h
theorem flat_cells {v : Value} (h : flatV v = true) : v.cells = #[v] := by cases v <;> first | rfl | cases h
theorem Rep.notFrozen {M : Mem} {w : World} (h : Rep M w) {b : Nat} {xs : List Value} {tot i : Nat} (hb : M b = some (.cells true xs tot)) (hi : i < tot) : w.frozen? ⟨b, i, none⟩ = false := by
  obtain ⟨c, e, fr, h1, h2, h3, h4⟩ := h b _ hb
  have := h4 rfl
  simp only [World.frozen?, h1, Bool.and_eq_false_iff, decide_eq_false_iff_not]
  omega
/-- One cell of an own block is written, at a place told already or the next one. -/
theorem semTo_store {K : Unit → Mem → Prop} {b i : Nat} {v : Value} {xs : List Value} {tot : Nat} (hb : M b = some (.cells true xs tot)) (hi : i ≤ xs.length) (ht : i < tot) (hv : flatV v = true)
    (h : K () (M.set b (.cells true (xs.take i ++ v :: xs.drop (i + 1)) tot))) : SemTo P (store ⟨b, i, none⟩ v) M K := by
  intro w hw
  obtain ⟨c, e, fr, h1, h2, ⟨ys, h3⟩, h4⟩ := hw b _ hb
  have hlt : i < c.size := by omega
  have hcell : w.cell? ⟨b, i, none⟩ = some (c[i]'hlt) := by simp [World.cell?, h1, hlt]
  refine ⟨(), w.setCell ⟨b, i, none⟩ v, _, ?_, ?_, ?_, h⟩
  · rw [run_store _ _ _ _ _ (flat_one hv), hcell]
    simp [hw.notFrozen hb ht]
  · intro j B hB
    by_cases ej : j = b
    · subst ej
      unfold Mem.set at hB
      rw [put_same] at hB; injection hB with hB; subst hB
      refine ⟨c.setIfInBounds i v, e, fr, by simp only [World.setCell, Array.getElem?_modify, if_pos, h1, Option.map_some, Option.isSome_none, Bool.false_eq_true, if_false], by simpa using h2, ⟨(c.toList.drop (i + 1)).drop (xs.drop (i + 1)).length, ?_⟩, h4⟩
      rw [Array.toList_setIfInBounds, List.set_eq_take_append_cons_drop, if_pos (by simpa using hlt), h3]
      have e1 : (xs ++ ys).take i = xs.take i := List.take_append_of_le_length hi
      rw [e1, List.append_assoc, List.cons_append]
      congr 2
      by_cases hh : i < xs.length
      · have e2 : (xs ++ ys).drop (i + 1) = xs.drop (i + 1) ++ ys := List.drop_append_of_le_length (by omega)
        rw [e2, List.drop_left]
      · have e3 : xs.drop (i + 1) = [] := List.drop_eq_nil_of_le (by omega)
        rw [e3]; simp
    · unfold Mem.set at hB
      rw [put_ne _ _ ej] at hB
      exact Blk.holds_of (w := w) (by simp [World.setCell, Array.getElem?_modify, Ne.symm ej]) (hw j B hB)
  · refine ⟨rfl, rfl, rfl, by simp [World.setCell], fun j hj ho => ?_, fun j ⟨B, h1, h2⟩ => ?_⟩
    · have ej : j ≠ b := fun e => ho (e ▸ ⟨_, hb, rfl⟩)
      simp [World.setCell, Array.getElem?_modify, Ne.symm ej]
    · by_cases ej : j = b
      · subst ej; exact .inl ⟨_, hb, rfl⟩
      · unfold Mem.set at h1; rw [put_ne _ _ ej] at h1; exact .inl ⟨B, h1, h2⟩
theorem semTo_storeCells {K : Unit → Mem → Prop} {b o : Nat} : ∀ (vs : List Value) (i : Nat) (M : Mem) (xs : List Value) (tot : Nat), M b = some (.cells true xs tot) → o + i ≤ xs.length → o + i + vs.length ≤ tot → (∀ v ∈ vs, flatV v = true) →
    K () (M.set b (.cells true (xs.take (o + i) ++ vs ++ xs.drop (o + i + vs.length)) tot)) → SemTo P (storeCells ⟨b, o, none⟩ vs i) M K
  | [], i, M, xs, tot, hb, h1, h2, h3, hk => by
    unfold storeCells
    refine semTo_pure ?_
    have : M.set b (.cells true (xs.take (o + i) ++ [] ++ xs.drop (o + i + ([] : List Value).length)) tot) = M := by
      funext j
      simp only [Mem.set, Mem.put]
      split
      · subst_vars; rw [hb]; simp
      · rfl
    rw [this] at hk
    exact hk
  | v :: vs, i, M, xs, tot, hb, h1, h2, h3, hk => by
    unfold storeCells
    rw [List.length_cons] at h2
    rw [addr_add]
    refine semTo_bind (semTo_store hb h1 (by omega) (h3 v (by simp)) ?_)
    refine semTo_storeCells vs (i + 1) _ _ tot (put_same _ _ _) ?_ (by omega) (fun u hu => h3 u (by simp [hu])) ?_
    · simp only [List.length_append, List.length_take, List.length_cons, List.length_drop]; omega
    · rw [set_set]
      have e1 : (xs.take (o + i) ++ v :: xs.drop (o + i + 1)).take (o + (i + 1)) = xs.take (o + i) ++ [v] := by
        rw [List.take_append, List.take_of_length_le (by rw [List.length_take]; omega), List.length_take, Nat.min_eq_left h1, show o + (i + 1) - (o + i) = 1 by omega]
        simp
      have e2 : (xs.take (o + i) ++ v :: xs.drop (o + i + 1)).drop (o + (i + 1) + vs.length) = xs.drop (o + i + (vs.length + 1)) := by
        rw [List.drop_append, List.drop_eq_nil_of_le (by rw [List.length_take]; omega), List.length_take, Nat.min_eq_left h1, show o + (i + 1) + vs.length - (o + i) = vs.length + 1 by omega]
        simp [Nat.add_assoc, Nat.add_comm, Nat.add_left_comm]
      rw [e1, e2]
      simpa using hk
theorem run_info {t : TypeId} {I : TypeInfo} (h : P.info? t = some I) (w : World) : (typeInfo t).run P w = .ok I w := by simp [typeInfo, h]
theorem run_size {t : TypeId} {I : TypeInfo} (h : P.info? t = some I) (w : World) : (sizeOf t).run P w = .ok I.size w := by simp [sizeOf, run_info h]
theorem run_zero {t : TypeId} {I : TypeInfo} {z : Value} (h : P.info? t = some I) (hz : I.zero = some z) (w : World) : (zeroValue t).run P w = .ok z w := by simp [zeroValue, run_info h, hz]

/-! ### The operations -/
def aVal (b : Nat) : Value := .pointer (some ⟨b, 0, none⟩)
/-- A new block; its number is the memory's own choice. -/
def vNew (cells : List Value) (mk : Nat → Value) (K : Value → Mem → Prop) (M : Mem) : Prop := ∀ b, M b = none → K (mk b) (M.put b (.cells true cells cells.length))
/-- The like for a slice whose capacity is open. -/
def vNewC (cells : List Value) (K : Value → Mem → Prop) (M : Mem) : Prop :=
  ∀ b c, M b = none → cells.length ≤ c → K (.slice (some ⟨b, 0, none⟩) cells.length c) (M.put b (.cells true cells c))
theorem new_is (K : Value → Mem → Prop) (cells : Array Value) (e : TypeId) (mk : Addr → Value) (h : vNew cells.toList (fun b => mk ⟨b, 0, none⟩) K M) : SemTo P (do pure (mk (← newRow e cells))) M K :=
  semTo_bind (semTo_newRow fun b hb => semTo_pure (by have := h b hb; simpa using this))
def vBox (v : Value) (K : Value → Mem → Prop) (M : Mem) : Prop := vNew v.cells.toList aVal K M
theorem box_is (K : Value → Mem → Prop) (e : TypeId) (v : Value) (h : vBox v K M) : SemTo P (Instr.box e v) M K := by
  unfold Instr.box newVar
  refine semTo_bind (semTo_newRow fun b hb => semTo_pure ?_)
  have := h b hb; simpa [aVal] using this
def vAllocD (d : Option TI) (K : Value → Mem → Prop) (M : Mem) : Prop :=
  match d with
  | some i => vBox i.zero K M
  | none => False
def vAlloc (T : Tab) (t : TypeId) (K : Value → Mem → Prop) (M : Mem) : Prop := vAllocD (T t) K M
theorem alloc_is (T : Tab) (hT : TabOk P T) (K : Value → Mem → Prop) (e : TypeId) (v : Value) (h : vAlloc T e K M) : SemTo P (Instr.alloc e true v) M K := by
  unfold vAlloc vAllocD at h
  split at h
  · rename_i i hi
    obtain ⟨_, I, h1, h2, _⟩ := hT _ _ hi
    unfold Instr.alloc
    refine semTo_bind (semTo_run i.zero (fun w _ => run_zero h1 h2 w) ?_)
    exact box_is K e i.zero h
  · exact h.elim
def fillL (parts : List (Nat × Value)) (cells : List Value) : List Value := parts.foldl (fun cs p => cs.set p.1 p.2) cells
theorem fill_one : ∀ (parts : List (Nat × Value)) (cells : Array Value), (∀ p ∈ parts, p.1 < cells.size ∧ flatV p.2 = true) → Instr.fill (fun i => some (i * 1, 1)) cells parts = some (fillL parts cells.toList).toArray
  | [], cells, _ => by simp [Instr.fill, fillL]
  | (i, v) :: rest, cells, h => by
    have h0 := h (i, v) (by simp)
    simp only at h0
    have hc : v.cells = #[v] := flat_cells h0.2
    have ih := fill_one rest (cells.setIfInBounds i v) (fun p hp => by have := h p (by simp [hp]); simpa using this)
    have hz : (#[v].zipIdx).foldl (fun (cs : Array Value) (x : Value × Nat) => cs.setIfInBounds (i * 1 + x.2) x.1) cells = cells.setIfInBounds i v := by simp
    unfold Instr.fill
    simp only [hc]
    rw [if_neg (by simp; omega)]
    exact (congrArg (fun c => Instr.fill (fun i => some (i * 1, 1)) c rest) hz).trans (by rw [ih]; simp [fillL])

def vThen (p q : Prop) : Prop := p ∧ q
def vBd (p : Prop) (K : Value → Mem → Prop) (v : Value) (M : Mem) : Prop := p ∧ K v M
def vBuildSD (d : Option TI) (len : Nat) (parts : List (Nat × Value)) (K : Value → Mem → Prop) (M : Mem) : Prop :=
  match d with
  | some ⟨.slc _ 1 _ z, _, _⟩ => vThen (len ≤ 16777216 ∧ flatV z = true ∧ ∀ p ∈ parts, p.1 < len ∧ flatV p.2 = true)
      (vNew (fillL parts (List.replicate len z)) (fun b => .slice (some ⟨b, 0, none⟩) len len) K M)
  | _ => False
def vBuildS (T : Tab) (t : TypeId) (len : Nat) (parts : List (Nat × Value)) (K : Value → Mem → Prop) (M : Mem) : Prop := vBuildSD (T t) len parts K M
theorem rep_flat (z : Value) (hz : flatV z = true) (n : Nat) : ((Array.range n).map fun i => z.cells[i % z.cells.size]!) = (List.replicate n z).toArray := by
  rw [flat_cells hz]
  apply Array.ext'
  simp only [Array.toList_map, Array.toList_range]
  apply List.ext_getElem
  · simp
  · intro i h1 h2
    simp [Nat.mod_one]
theorem buildS_is (T : Tab) (hT : TabOk P T) (K : Value → Mem → Prop) (t : TypeId) (len : Nat) (parts : Array (Nat × Value)) (h : vBuildS T t len parts.toList K M) : SemTo P (Instr.buildSlice t len parts) M K := by
  unfold vBuildS vBuildSD at h
  split at h
  · rename_i e by_ z _ _ hi
    obtain ⟨⟨hl, hz, hp⟩, hk⟩ := h
    obtain ⟨⟨h1, I, h2, h3, h4, h5⟩, _⟩ := hT _ _ hi
    unfold Instr.buildSlice
    refine semTo_bind (semTo_run _ (fun w _ => run_underlying h1 w) ?_)
    dsimp only
    refine semTo_bind (semTo_run I.size (fun w _ => run_size h2 w) ?_)
    rw [h3, Nat.mul_one, if_neg (by omega)]
    have hf : ∀ (c0 : Array Value), c0.size = len → c0 = (List.replicate len z).toArray → Instr.fill (fun i => some (i * 1, 1)) c0 parts.toList = some (fillL parts.toList (List.replicate len z)).toArray := by
      intro c0 hc hc'
      have := fill_one parts.toList c0 (fun p hp' => by rw [hc]; exact hp p hp')
      rw [this, hc']
    by_cases hz0 : len = 0
    · rw [if_pos hz0]
      refine semTo_bind (semTo_pure ?_)
      rw [hf _ (by simp) (by subst hz0; simp)]
      dsimp only
      exact new_is K _ e (fun a => .slice (some a) len len) (by simpa using hk)
    · rw [if_neg hz0]
      refine semTo_bind (semTo_run z (fun w _ => run_zero h2 h5 w) (semTo_bind (semTo_pure ?_)))
      rw [hf _ (by simp) (rep_flat z hz len)]
      dsimp only
      exact new_is K _ e (fun a => .slice (some a) len len) (by simpa using hk)
  · exact h.elim
/-- A value is read. -/
def vGet (v : Option Value) (K : Value → Mem → Prop) (M : Mem) : Prop :=
  match v with
  | some v => K v M
  | none => False
def vGets (v : Option (List Value)) (K : Value → Mem → Prop) (M : Mem) : Prop :=
  match v with
  | some l => K (.agg l.toArray) M
  | none => False
def vLoadD (x : Value) (d : Option TI) (K : Value → Mem → Prop) (M : Mem) : Prop :=
  match x, d with
  | .pointer (some ⟨b, o, none⟩), some i => if i.d.agg then vGets (M.sub? b o i.size) K M else vGet (M.get? b o) K M
  | _, _ => False
def vLoad (T : Tab) (t : TypeId) (x : Value) (K : Value → Mem → Prop) (M : Mem) : Prop := vLoadD x (T t) K M
theorem isAgg_is (T : Tab) (hT : TabOk P T) {t : TypeId} {i : TI} (hi : T t = some i) (w : World) : (isAgg t).run P w = .ok i.d.agg w := by
  have h := (hT _ _ hi).1
  obtain ⟨d, s, z⟩ := i
  cases d <;> simp only [TD.ok] at h
  case flat =>
    obtain ⟨d, h1, h2⟩ := h
    simp only [isAgg, Sem.run_bind, run_underlying h1, Result.andThen_ok]
    cases d <;> first | rfl | cases h2
  case iface => obtain ⟨_, h⟩ := h; simp only [isAgg, Sem.run_bind, run_underlying h, Result.andThen_ok]; rfl
  case func => obtain ⟨_, _, _, h⟩ := h; simp only [isAgg, Sem.run_bind, run_underlying h, Result.andThen_ok]; rfl
  case slc => obtain ⟨h, _⟩ := h; simp only [isAgg, Sem.run_bind, run_underlying h, Result.andThen_ok]; rfl
  case strct => obtain ⟨_, h, _⟩ := h; simp only [isAgg, Sem.run_bind, run_underlying h, Result.andThen_ok]; rfl
  case arr => obtain ⟨_, h, _⟩ := h; simp only [isAgg, Sem.run_bind, run_underlying h, Result.andThen_ok]; rfl
  all_goals (simp only [isAgg, Sem.run_bind, run_underlying h, Result.andThen_ok]; rfl)
theorem semTo_loadCells {K : Array Value → Mem → Prop} {b o n : Nat} {l : List Value} (h : M.sub? b o n = some l) (hk : K l.toArray M) : SemTo P (loadCells ⟨b, o, none⟩ n) M K := by
  refine semTo_run l.toArray (fun w hw => ?_) hk
  obtain ⟨h1, h2⟩ := hw.sub? h
  rw [← h1]
  exact run_loadCells_list w ⟨b, o, none⟩ l (fun j v hv => by rw [addr_add]; exact h2 j v hv)
theorem loadVar_is (T : Tab) (hT : TabOk P T) (K : Value → Mem → Prop) (t : TypeId) (b o : Nat) {i : TI} (hi : T t = some i) (h : if i.d.agg then vGets (M.sub? b o i.size) K M else vGet (M.get? b o) K M) : SemTo P (loadVar t ⟨b, o, none⟩) M K := by
  obtain ⟨_, I, h1, h2, h3⟩ := hT _ _ hi
  unfold loadVar
  refine semTo_bind (semTo_run i.d.agg (fun w _ => isAgg_is T hT hi w) ?_)
  cases ha : i.d.agg with
  | true =>
    rw [ha, if_pos rfl] at h
    rw [if_pos rfl]
    refine semTo_bind (semTo_run I.size (fun w _ => run_size h1 w) ?_)
    rw [h3]
    unfold vGets at h
    split at h
    · rename_i l hl; exact semTo_bind (semTo_loadCells hl (semTo_pure h))
    · exact h.elim
  | false =>
    rw [ha, if_neg (by simp)] at h
    rw [if_neg (by simp)]
    unfold vGet at h
    split at h
    · rename_i v hv; exact semTo_run v (fun w hw => by rw [run_load, hw.cell hv]) h
    · exact h.elim
theorem load_is (T : Tab) (hT : TabOk P T) (K : Value → Mem → Prop) (t : TypeId) (x : Value) (h : vLoad T t x K M) : SemTo P (Instr.loadAt t x) M K := by
  unfold vLoad vLoadD at h
  split at h
  · rename_i b o i hi
    unfold Instr.loadAt Instr.sureAddr
    exact semTo_bind (semTo_pure (loadVar_is T hT K t b o hi h))
  · exact h.elim
/-- Some cells of a list told anew. -/
def splice (xs : List Value) (o : Nat) (vs : List Value) : List Value := xs.take o ++ vs ++ xs.drop (o + vs.length)
theorem splice_one (xs : List Value) (o : Nat) (v : Value) (h : o < xs.length) : splice xs o [v] = xs.set o v := by
  rw [List.set_eq_take_append_cons_drop, if_pos h]; simp [splice]
def vSt (B : Option Blk) (b o : Nat) (vs : List Value) (K : Value → Mem → Prop) (M : Mem) : Prop :=
  match B with
  | some (.cells true xs tot) => vThen (o + vs.length ≤ xs.length ∧ xs.length ≤ tot ∧ ∀ v ∈ vs, flatV v = true) (vBd True K undef (M.set b (.cells true (splice xs o vs) tot)))
  | _ => False
def vSt1 (B : Option Blk) (b o : Nat) (v : Value) (K : Value → Mem → Prop) (M : Mem) : Prop :=
  match B with
  | some (.cells true xs tot) => vBd (o < xs.length ∧ flatV v = true) K undef (M.set b (.cells true (xs.set o v) tot))
  | _ => False
def vStoreD (x v : Value) (d : Option TI) (K : Value → Mem → Prop) (M : Mem) : Prop :=
  match x, d with
  | .pointer (some ⟨b, o, none⟩), some i => if i.d.agg then vThen (v.cells.size = i.size) (vSt (M b) b o v.cells.toList K M) else vThen (i.size = 1) (vSt1 (M b) b o v K M)
  | _, _ => False
def vStore (T : Tab) (t : TypeId) (x v : Value) (K : Value → Mem → Prop) (M : Mem) : Prop := vStoreD x v (T t) K M
theorem Rep.le {M : Mem} {w : World} (h : Rep M w) {b : Nat} {own : Bool} {xs : List Value} {tot : Nat} (hb : M b = some (.cells own xs tot)) : xs.length ≤ tot := by
  obtain ⟨c, e, fr, h1, h2, ⟨ys, h3⟩, h4⟩ := h b _ hb
  have : c.toList.length = xs.length + ys.length := by rw [h3, List.length_append]
  rw [Array.length_toList] at this
  omega
theorem semTo_rep {α : Type} {s : Sem α} {K : α → Mem → Prop} (h : (∃ w, Rep M w) → SemTo P s M K) : SemTo P s M K := fun w hw => h ⟨w, hw⟩ w hw
theorem storeVar_is (T : Tab) (hT : TabOk P T) (K : Value → Mem → Prop) (t : TypeId) (x v : Value) (h : vStore T t x v K M) : SemTo P (Instr.storeAt t x v) M (fun _ M' => K undef M') := by
  unfold vStore vStoreD at h
  split at h
  · rename_i b o i hi
    obtain ⟨_, I, h1, h2, h3⟩ := hT _ _ hi
    unfold Instr.storeAt Instr.sureAddr storeVar
    refine semTo_bind (semTo_pure (semTo_bind (semTo_run I.size (fun w _ => run_size h1 w) ?_)))
    split at h
    · obtain ⟨hs, h⟩ := h
      rw [h3, if_neg (by omega)]
      unfold vSt at h
      split at h
      · rename_i xs tot hM
        obtain ⟨⟨ha, hb, hc⟩, _, h⟩ := h
        exact semTo_storeCells _ 0 _ xs tot hM (by omega) (by omega) hc h
      · exact h.elim
    · obtain ⟨hs, h⟩ := h
      unfold vSt1 at h
      split at h
      · rename_i xs tot hM
        obtain ⟨⟨ha, hb⟩, h⟩ := h
        have hc := flat_cells hb
        rw [h3, hc, if_neg (by simpa using hs.symm)]
        refine semTo_rep fun ⟨w, hw⟩ => ?_
        have hle := hw.le hM
        refine semTo_storeCells _ 0 _ xs tot hM (by omega) (by simp; omega) (by simpa using hb) ?_
        rw [← splice_one xs o v ha] at h
        simpa [splice] using h
      · exact h.elim
  · exact h.elim
def vMakeD (l c : Value) (d : Option TI) (K : Value → Mem → Prop) (M : Mem) : Prop :=
  match d, l, c with
  | some ⟨.slc _ 1 bytes z, _, _⟩, .int _ l, .int _ c => vThen (0 ≤ l ∧ l ≤ c ∧ c ≤ 1099511627776 ∧ bytes ≤ 32 ∧ flatV z = true)
      (vNew (List.replicate c.toNat z) (fun b => .slice (some ⟨b, 0, none⟩) l.toNat c.toNat) K M)
  | _, _, _ => False
def vMake (T : Tab) (t : TypeId) (l c : Value) (K : Value → Mem → Prop) (M : Mem) : Prop := vMakeD l c (T t) K M
theorem make_is (T : Tab) (hT : TabOk P T) (K : Value → Mem → Prop) (t : TypeId) (l c : Value) (h : vMake T t l c K M) : SemTo P (Instr.makeSlice t l c) M K := by
  unfold vMake vMakeD at h
  split at h
  · rename_i e bytes z _ _ k l k' c hi
    obtain ⟨⟨h0, h1, h2, h3, hz⟩, hk⟩ := h
    obtain ⟨⟨u1, I, u2, u3, u4, u5⟩, _⟩ := hT _ _ hi
    unfold Instr.makeSlice
    refine semTo_bind (semTo_run _ (fun w _ => run_underlying u1 w) ?_)
    dsimp only
    refine semTo_bind (semTo_run l (fun w _ => by simp [asInt, asIntOf]) (semTo_bind (semTo_run c (fun w _ => by simp [asInt, asIntOf]) ?_)))
    refine semTo_bind (semTo_run I (fun w _ => run_info u2 w) ?_)
    have wl : IntKind.i64.wrap l = l := by simp [IntKind.wrap, IntKind.bits, IntKind.signed]; omega
    have wc : IntKind.i64.wrap c = c := by simp [IntKind.wrap, IntKind.bits, IntKind.signed]; omega
    have hb : (I.bytes : Int) * c ≤ 32 * 1099511627776 := by
      rw [u4]
      have h9 : (bytes : Int) * c ≤ 32 * c := Int.mul_le_mul_of_nonneg_right (by omega) (by omega)
      omega
    have hc0 : (decide (c < 0) || decide ((I.bytes : Int) * c > 2 ^ 48)) = false := by
      simp only [Bool.or_eq_false_iff, decide_eq_false_iff_not]; omega
    have hl0 : decide (l < 0) = false := by simp; omega
    have hl1 : decide (l > c) = false := by simp; omega
    simp only [wl, wc, hc0, hl0, hl1, Bool.false_or, Bool.or_self, Bool.false_eq_true, if_false]
    refine semTo_bind (semTo_run () (fun w _ => run_askRoom P w _) ?_)
    refine semTo_bind (semTo_run I.size (fun w _ => run_size u2 w) ?_)
    rw [u3, Nat.mul_one]
    by_cases hc1 : c.toNat = 0
    · rw [if_pos hc1]
      refine semTo_bind (semTo_pure ?_)
      have : ((Array.range c.toNat).map fun i => (#[] : Array Value)[i % (#[] : Array Value).size]!) = (List.replicate c.toNat z).toArray := by rw [hc1]; simp
      rw [this]
      exact new_is K _ e (fun a => .slice (some a) l.toNat c.toNat) (by simpa using hk)
    · rw [if_neg hc1]
      refine semTo_bind (semTo_run z (fun w _ => run_zero u2 u5 w) (semTo_bind (semTo_pure ?_)))
      rw [rep_flat z hz]
      exact new_is K _ e (fun a => .slice (some a) l.toNat c.toNat) (by simpa using hk)
  · exact h.elim

/-- The bytes of a string, as cells. -/
def bytesV (l : List UInt8) : List Value := l.map fun u => .int .u8 u.toNat
theorem bytesV_length (l : List UInt8) : (bytesV l).length = l.length := by simp [bytesV]
theorem bytesV_flat (l : List UInt8) : ∀ v ∈ bytesV l, flatV v = true := by
  intro v hv
  obtain ⟨u, _, rfl⟩ := List.mem_map.1 hv
  rfl
def isByte (d : Option TI) : Bool :=
  match d with
  | some ⟨.int .u8, _, _⟩ => true
  | _ => false
def vS2BD (T : Tab) (s d : Option TI) (x : Value) (K : Value → Mem → Prop) (M : Mem) : Prop :=
  match s, d, x with
  | some ⟨.str, _, _⟩, some ⟨.slc e 1 _ _, _, _⟩, .string x => vThen (isByte (T e) = true) (vNewC (bytesV (sl x)) K M)
  | _, _, _ => False
def vS2B (T : Tab) (s d : TypeId) (x : Value) (K : Value → Mem → Prop) (M : Mem) : Prop := vS2BD T (T s) (T d) x K M
theorem isByte_spec {d : Option TI} (h : isByte d = true) : ∃ n z, d = some ⟨.int .u8, n, z⟩ := by
  unfold isByte at h
  split at h
  · exact ⟨_, _, rfl⟩
  · cases h
theorem cut_ge (s old e t : Nat) : s ≤ Question.cut (.appendCap s old e) t := by simp [Question.cut]
theorem semTo_newC {K : Addr → Mem → Prop} {e : TypeId} (xs : List Value) (c : Nat) (z : Value) (hc : xs.length ≤ c) (h : ∀ b, M b = none → K ⟨b, 0, none⟩ (M.put b (.cells true xs c))) :
    SemTo P (newRow e (xs.toArray ++ Array.replicate (c - xs.length) z)) M K := by
  intro w hw
  obtain ⟨a, w', M', h1, h2, h3, b, hb, e1, e2⟩ := semTo_newRow (P := P) (e := e) (cells := xs.toArray ++ Array.replicate (c - xs.length) z) (K := fun a M' => ∃ b, M b = none ∧ a = ⟨b, 0, none⟩ ∧ M' = M.put b (.cells true (xs ++ List.replicate (c - xs.length) z) c))
    (fun b hb => ⟨b, hb, rfl, by congr 2 <;> simp; omega⟩) w hw
  subst e2
  refine ⟨a, w', _, h1, ?_, ?_, by rw [e1]; exact h b hb⟩
  · intro i B hB
    by_cases ei : i = b
    · subst ei
      rw [put_same] at hB; injection hB with hB; subst hB
      obtain ⟨cs, e, fr, k1, k2, ⟨ys, k3⟩, k4⟩ := h2 i _ (put_same _ _ _)
      exact ⟨cs, e, fr, k1, k2, ⟨List.replicate (c - xs.length) z ++ ys, by rw [k3, List.append_assoc]⟩, k4⟩
    · refine h2 i B ?_
      rw [put_ne _ _ ei] at hB ⊢; exact hB
  · refine ⟨h3.os, h3.tape, h3.output, h3.size, h3.block, fun i ⟨B, g1, g2⟩ => h3.own i ?_⟩
    by_cases ei : i = b
    · subst ei; exact ⟨_, put_same _ _ _, rfl⟩
    · rw [put_ne _ _ ei] at g1; exact ⟨B, by rw [put_ne _ _ ei]; exact g1, g2⟩
theorem s2b_is (T : Tab) (hT : TabOk P T) (K : Value → Mem → Prop) (s d : TypeId) (x : Value) (h : vS2B T s d x K M) : SemTo P (convert s d x) M K := by
  unfold vS2B vS2BD at h
  split at h
  · rename_i e _ _ _ _ x hs hd
    obtain ⟨he, h⟩ := h
    obtain ⟨_, _, he⟩ := isByte_spec he
    · have u1 := (hT _ _ hs).1
      obtain ⟨u2, _⟩ := (hT _ _ hd).1
      have u3 := (hT _ _ he).1
      simp only [TD.ok] at u1 u3
      unfold convert
      refine semTo_bind (semTo_run _ (fun w _ => run_underlying u1 w) (semTo_bind (semTo_run _ (fun w _ => run_underlying u2 w) ?_)))
      dsimp only
      refine semTo_bind (semTo_run _ (fun w _ => run_underlying u3 w) ?_)
      dsimp only
      unfold Conv.stringToBytes
      refine semTo_bind (semTo_choose rfl fun t => ?_)
      have hx : (x.data.map fun b => Value.int .u8 b.toNat) = (bytesV (sl x)).toArray := by apply Array.ext'; simp [bytesV, sl]
      have hl : x.size = (bytesV (sl x)).length := by simp [bytesV, sl]
      dsimp only
      rw [hx, hl]
      refine semTo_bind (semTo_newC _ _ _ (cut_ge _ _ _ _) fun b hb => ?_)
      refine semTo_bind (semTo_markStringish (put_same _ _ _) (semTo_pure ?_))
      exact h b _ hb (cut_ge _ _ _ _)
  · exact h.elim
def decB : List Value → Option (List UInt8)
  | [] => some []
  | .int .u8 n :: l => (decB l).map fun r => UInt8.ofNat n.toNat :: r
  | _ => none
theorem decB_bytesV (l : List UInt8) : decB (bytesV l) = some l := by
  induction l with
  | nil => rfl
  | cons u l ih => simp only [bytesV, List.map_cons] at *; simp [decB, ih]
def vB2S1 (l : Option (List Value)) (K : Value → Mem → Prop) (M : Mem) : Prop :=
  match l with
  | some vs => (match decB vs with | some r => vBd True K (str r) M | none => False)
  | none => False
def vB2SD (T : Tab) (s d : Option TI) (x : Value) (K : Value → Mem → Prop) (M : Mem) : Prop :=
  match s, d, x with
  | some ⟨.slc e 1 _ _, _, _⟩, some ⟨.str, _, _⟩, .slice (some ⟨b, o, none⟩) n _ => vThen (isByte (T e) = true) (vB2S1 (M.sub? b o n) K M)
  | some ⟨.slc e 1 _ _, _, _⟩, some ⟨.str, _, _⟩, .slice none _ _ => vThen (isByte (T e) = true) (vBd True K (str []) M)
  | _, _, _ => False
def vB2S (T : Tab) (s d : TypeId) (x : Value) (K : Value → Mem → Prop) (M : Mem) : Prop := vB2SD T (T s) (T d) x K M
theorem decB_ints : ∀ (vs : List Value) (r : List UInt8), decB vs = some r → ∃ ns : List Int, vs = ns.map (Value.int .u8) ∧ ns.map (fun n => UInt8.ofNat n.toNat) = r
  | [], r, h => by simp only [decB, Option.some.injEq] at h; subst h; exact ⟨[], rfl, rfl⟩
  | v :: l, r, h => by
    unfold decB at h
    split at h
    · rename_i he; cases he
    · rename_i n l' he
      injection he with e1 e2
      subst e1; subst e2
      obtain ⟨r', h1, h2⟩ := Option.map_eq_some_iff.1 h
      obtain ⟨ns, h3, h4⟩ := decB_ints _ r' h1
      exact ⟨n :: ns, by rw [h3]; rfl, by rw [List.map_cons, h4, h2]⟩
    · cases h
theorem b2s_is (T : Tab) (hT : TabOk P T) (K : Value → Mem → Prop) (s d : TypeId) (x : Value) (h : vB2S T s d x K M) : SemTo P (convert s d x) M K := by
  unfold vB2S vB2SD at h
  split at h
  · rename_i e _ _ _ _ _ _ b o n c hs hd
    obtain ⟨he, h⟩ := h
    obtain ⟨_, _, he⟩ := isByte_spec he
    · obtain ⟨u1, _⟩ := (hT _ _ hs).1
      have u2 := (hT _ _ hd).1
      have u3 := (hT _ _ he).1
      simp only [TD.ok] at u2 u3
      unfold vB2S1 at h
      split at h
      · rename_i vs hvs
        split at h
        · rename_i r hr
          obtain ⟨ns, h1, h2⟩ := decB_ints vs r hr
          refine semTo_run (str r) (fun w hw => ?_) h.2
          obtain ⟨g1, g2⟩ := hw.sub? hvs
          have hld : (loadCells ⟨b, o, none⟩ n).run P w = .ok (ns.map (Value.int .u8)).toArray w := by
            rw [← g1, ← h1]
            exact run_loadCells_list w ⟨b, o, none⟩ vs (fun j v hv => by rw [addr_add]; exact g2 j v hv)
          have hrun := run_bytesToString (P := P) w ⟨b, o, none⟩ n c ns hld
          have hs' : (convert s d (.slice (some ⟨b, o, none⟩) n c)).run P w = (Conv.bytesToString (.slice (some ⟨b, o, none⟩) n c)).run P w := by
            simp only [convert, Sem.run_bind, run_underlying u1, run_underlying u2, run_underlying u3, Result.andThen_ok]
          rw [hs', hrun, str, foldl_push_bytes, h2]
          congr 2
          apply ByteArray.ext
          simp
        · exact h.elim
      · exact h.elim
  · rename_i hs hd
    obtain ⟨he, h⟩ := h
    obtain ⟨_, _, he⟩ := isByte_spec he
    · obtain ⟨u1, _⟩ := (hT _ _ hs).1
      have u2 := (hT _ _ hd).1
      have u3 := (hT _ _ he).1
      simp only [TD.ok] at u2 u3
      refine semTo_run (str []) (fun w hw => ?_) h.2
      simp only [convert, Sem.run_bind, run_underlying u1, run_underlying u2, run_underlying u3, Result.andThen_ok, Conv.bytesToString, Sem.run_pure]
      rfl
  · exact h.elim

/-- What is appended. -/
def srcOf (M : Mem) (x : Value) : Option (List Value) :=
  match x with
  | .slice none 0 _ => some []
  | .slice (some ⟨b, o, none⟩) n _ => M.sub? b o n
  | .string s => some (bytesV (sl s))
  | _ => none
theorem src_is {K : Array Value → Mem → Prop} {x : Value} {l : List Value} (h : srcOf M x = some l) (hk : K l.toArray M) : SemTo P (Builtin.firstCells 1 l.length x) M K := by
  unfold srcOf at h
  split at h
  · injection h with h; subst h
    exact semTo_pure hk
  · rename_i b o n c
    unfold Builtin.firstCells
    refine semTo_rep fun ⟨w, hw⟩ => ?_
    rw [Nat.mul_one]
    exact semTo_loadCells (by rw [(hw.sub? h).1]; exact h) hk
  · rename_i s
    injection h with h; subst h
    refine semTo_run (bytesV (sl s)).toArray (fun w _ => ?_) hk
    have hl : (bytesV (sl s)).length = s.size := by simp [bytesV, sl]
    have hx : ((s.extract 0 s.size).data.map fun b => Value.int .u8 b.toNat) = (bytesV (sl s)).toArray := by
      apply Array.ext'; simp [bytesV, sl]
    simp only [Builtin.firstCells, hl, hx, Sem.run_pure]
  · cases h
theorem srcLen {x : Value} {l : List Value} (h : srcOf M x = some l) (w : World) (hw : Rep M w) : (Builtin.lenOf x).run P w = .ok l.length w := by
  unfold srcOf at h
  split at h
  · injection h with h; subst h; rfl
  · rw [(hw.sub? h).1]; rfl
  · injection h with h; subst h; simp [Builtin.lenOf, bytesV, sl]
  · cases h
/-- 'append' onto a slice that is all that is told of an own block (or onto nil); 'bytes' is an element's width. -/
def vApp2 (bytes : Nat) (B : Option Blk) (g n c : Nat) (src : Option (List Value)) (K : Value → Mem → Prop) (M : Mem) : Prop :=
  match B, src with
  | some (.cells true xs tot), some news => vThen (n = xs.length ∧ c = tot ∧ (n + news.length) * bytes ≤ 70368744177664 ∧ ∀ v ∈ news, flatV v = true) (vNewC (xs ++ news) K (M.del g))
  | _, _ => False
def vApp0 (bytes : Nat) (src : Option (List Value)) (K : Value → Mem → Prop) (M : Mem) : Prop :=
  match src with
  | some [] => vBd True K (.slice none 0 0) M
  | some (v :: vs) => vThen ((vs.length + 1) * bytes ≤ 70368744177664) (vNewC (v :: vs) K M)
  | none => False
def okSrc (d : Option TI) : Bool :=
  match d with
  | some ⟨.slc _ _ _ _, _, _⟩ | some ⟨.str, _, _⟩ => true
  | _ => false
def vAppD (d d' : Option TI) (s x : Value) (K : Value → Mem → Prop) (M : Mem) : Prop :=
  match d, s with
  | some ⟨.slc _ 1 bytes z, _, _⟩, .slice none 0 0 => vThen (okSrc d' = true ∧ flatV z = true ∧ 1 ≤ bytes ∧ bytes ≤ 32) (vApp0 bytes (srcOf M x) K M)
  | some ⟨.slc _ 1 bytes z, _, _⟩, .slice (some ⟨g, 0, none⟩) n c => vThen (okSrc d' = true ∧ flatV z = true ∧ 1 ≤ bytes ∧ bytes ≤ 32) (vApp2 bytes (M g) g n c (srcOf M x) K M)
  | _, _ => False
def vApp (T : Tab) (ts : List TypeId) (s x : Value) (K : Value → Mem → Prop) (M : Mem) : Prop :=
  match ts with
  | [t, t'] => vAppD (T t) (T t') s x K M
  | _ => False
theorem zeroCells_one {z : Value} (hz : flatV z = true) (n : Nat) : Builtin.zeroCells z.cells n = Array.replicate n z := by
  rw [flat_cells hz]
  unfold Builtin.zeroCells
  apply Array.ext'
  apply List.ext_getElem
  · simp
  · intro i h1 h2; simp [Nat.mod_one]
theorem growBy_le (n : Nat) : ∀ (r c : Nat), Builtin.growBy n r c ≤ max c (2 * n + 192)
  | 0, c => by simp only [Builtin.growBy]; omega
  | r + 1, c => by
    unfold Builtin.growBy
    split
    · omega
    · have ih := growBy_le n r (c + (c + 768) / 4)
      omega
theorem nextcap_le (need old : Nat) (h : old < need) : Builtin.nextslicecap need old ≤ 2 * need + 192 := by
  unfold Builtin.nextslicecap
  split
  · omega
  · split
    · omega
    · have := growBy_le need 4 old; omega
/-- What both ways of 'append' come to: in place, or anew. -/
theorem append_is (T : Tab) (hT : TabOk P T) (K : Value → Mem → Prop) (ts : Array TypeId) (r : TypeId) (s x : Value) (h : vApp T ts.toList s x K M) : SemTo P (Builtin.append_ ts r #[s, x]) M K := by
  unfold vApp at h
  split at h
  · rename_i t t' hts
    have hts' : ts = #[t, t'] := by apply Array.ext'; exact hts
    subst hts'
    have happ := h
    clear h
    have main : ∀ {e : TypeId} {bytes : Nat} {z : Value} {sz : Nat} {zz : Value}, T t = some ⟨.slc e 1 bytes z, sz, zz⟩ → okSrc (T t') = true ∧ flatV z = true ∧ 1 ≤ bytes ∧ bytes ≤ 32 →
        (s = .slice none 0 0 ∧ vApp0 bytes (srcOf M x) K M ∨ ∃ g n c, s = .slice (some ⟨g, 0, none⟩) n c ∧ vApp2 bytes (M g) g n c (srcOf M x) K M) → SemTo P (Builtin.append_ #[t, t'] r #[s, x]) M K := by
      rintro e bytes z _ _ hi ⟨hok, hz, hb1, hb⟩ h
      obtain ⟨⟨u1, I, u2, u3, u4, u5⟩, _⟩ := hT _ _ hi
      have hx : ∃ d, P.underlying t' = some d ∧ (match d with | .int _ => true | _ => false) = false := by
        unfold okSrc at hok
        split at hok
        · rename_i h'; obtain ⟨h', _⟩ := (hT _ _ h').1; exact ⟨_, h', rfl⟩
        · rename_i h'; have h' := (hT _ _ h').1; simp only [TD.ok] at h'; exact ⟨_, h', rfl⟩
        · cases hok
      obtain ⟨d, hd1, hd2⟩ := hx
      have key : ∀ (base : Option Addr) (sLen sCap : Nat) (old news : List Value), s = .slice base sLen sCap → srcOf M x = some news → old.length = sLen → (sLen + news.length) * bytes ≤ 70368744177664 →
          (∀ (w : World), Rep M w → (Builtin.firstCells 1 sLen s).run P w = .ok old.toArray w) →
          (sLen + news.length ≤ sCap → SemTo P (match base with | some a => (do storeCells (a.add (sLen * 1)) news; pure (Value.slice base (sLen + news.length) sCap) : Sem Value) | none => pure (Value.slice base (sLen + news.length) sCap)) M K) →
          (sCap < sLen + news.length → ∀ b c, M b = none → sLen + news.length ≤ c → ∃ M1, Sub M1 (M.put b (.cells true (old ++ news) c)) ∧ K (.slice (some ⟨b, 0, none⟩) (sLen + news.length) c) M1) → SemTo P (Builtin.append_ #[t, t'] r #[s, x]) M K := by
        intro base sLen sCap old news hs hsrc hlen hbd hold hin hout
        subst hs
        unfold Builtin.append_
        dsimp only [List.getElem?_toArray]
        refine semTo_bind (semTo_run _ (fun w _ => run_underlying u1 w) ?_)
        dsimp only
        refine semTo_bind (semTo_run _ (fun w _ => run_size u2 w) ?_)
        rw [u3]
        refine semTo_bind (semTo_run d (fun w _ => run_underlying hd1 w) ?_)
        refine semTo_bind (semTo_run false (fun w _ => by cases d <;> first | rfl | cases hd2) ?_)
        simp only [Bool.false_eq_true, if_false, false_or]
        refine semTo_bind (semTo_run news.length (fun w hw => srcLen hsrc w hw) ?_)
        split
        · rename_i hle
          refine semTo_bind ?_
          simp only [Bool.not_false, if_true]
          refine src_is hsrc ?_
          have := hin hle
          cases base with
          | none => exact this
          | some a => exact this
        · rename_i hgt
          have hgt' : sCap < sLen + news.length := by omega
          have hI0 : ¬ I.bytes = 0 := by omega
          refine semTo_bind (semTo_run I (fun w _ => run_info u2 w) ?_)
          rw [if_neg (fun h => hI0 h.2)]
          refine semTo_bind (semTo_run I (fun w _ => run_info u2 w) ?_)
          have hcap := nextcap_le _ _ hgt'
          have hcb : ¬ Builtin.nextslicecap (sLen + news.length) sCap * I.bytes > 2 ^ 48 := by
            rw [u4]
            have h9 := Nat.mul_le_mul_right bytes hcap
            rw [Nat.add_mul, Nat.mul_assoc] at h9
            omega
          rw [if_neg hcb]
          refine semTo_bind (semTo_choose rfl fun tt => ?_)
          have hge := cut_ge (sLen + news.length) sCap e tt
          generalize Question.cut (.appendCap (sLen + news.length) sCap e) tt = cc at hge ⊢
          refine semTo_bind (semTo_run I (fun w _ => run_info u2 w) ?_)
          refine semTo_bind (semTo_run () (fun w _ => run_askRoom P w _) ?_)
          refine semTo_bind (semTo_run old.toArray (fun w hw => hold w hw) ?_)
          simp only [Bool.not_false, if_true]
          refine semTo_bind (src_is hsrc ?_)
          refine semTo_bind (semTo_run z (fun w _ => run_zero u2 u5 w) ?_)
          rw [zeroCells_one hz]
          have hl : (old ++ news).length = sLen + news.length := by rw [List.length_append, hlen]
          have := semTo_newC (P := P) (M := M) (e := e) (K := fun a M' => ∃ M1, Sub M1 M' ∧ K (.slice (some a) (sLen + news.length) cc) M1) (old ++ news) cc z (by omega) (fun b hb => hout hgt' b cc hb hge)
          rw [hl] at this
          refine semTo_bind ?_
          have e1 : old.toArray ++ news.toArray ++ Array.replicate (cc - (sLen + news.length)) z = (old ++ news).toArray ++ Array.replicate (cc - (sLen + news.length)) z := by simp
          rw [e1]
          intro w hw
          obtain ⟨a, w', M', h1, h2, h3, M1, h4, h5⟩ := this w hw
          exact ⟨a, w', M1, h1, h2.sub h4, h3.sub h4, semTo_pure h5⟩
      clear happ
      rcases h with ⟨hs, h⟩ | ⟨g, n, c, hs, h⟩
      · subst hs
        unfold vApp0 at h
        split at h
        · rename_i hsrc
          exact key none 0 0 [] [] rfl hsrc rfl (by simp) (fun w _ => rfl) (fun _ => semTo_pure h.2) (fun h => by simp at h)
        · rename_i v vs hsrc
          exact key none 0 0 [] (v :: vs) rfl hsrc rfl (by simpa using h.1) (fun w _ => rfl) (fun h => by simp at h) (fun _ b c hb hc => ⟨_, Sub.refl _, by have := h.2 b c hb (by simpa using hc); simpa using this⟩)
        · exact h.elim
      · subst hs
        unfold vApp2 at h
        split at h
        · rename_i xs tot news hM hsrc
          obtain ⟨⟨e1, e2, hbd, hfl⟩, hk⟩ := h
          subst e1; subst e2
          refine semTo_rep fun ⟨w0, hw0⟩ => ?_
          have hle := hw0.le hM
          have hsub : M.sub? g 0 xs.length = some xs := by simp [Mem.sub?, hM]
          have hfc : ∀ w, Rep M w → (Builtin.firstCells 1 xs.length (.slice (some ⟨g, 0, none⟩) xs.length c)).run P w = .ok xs.toArray w := by
            intro w hw
            obtain ⟨g1, g2⟩ := hw.sub? hsub
            have := run_loadCells_list (P := P) w ⟨g, 0, none⟩ xs (fun j v hv => by rw [addr_add]; exact g2 j v hv)
            unfold Builtin.firstCells
            rw [Nat.mul_one]; exact this
          refine key (some ⟨g, 0, none⟩) xs.length c xs news rfl hsrc rfl hbd hfc (fun hin => ?_) (fun hout b c' hb hc => ?_)
          · dsimp only
            rw [addr_add, Nat.mul_one, Nat.zero_add]
            refine semTo_bind (semTo_storeCells news 0 M xs c hM (by omega) (by omega) hfl ?_)
            refine semTo_pure ?_
            have := hk g c (by simp [Mem.del]) (by rw [List.length_append]; omega)
            have e3 : (M.del g).put g (.cells true (xs ++ news) c) = M.set g (.cells true (xs.take (xs.length + 0) ++ news ++ xs.drop (xs.length + 0 + news.length)) c) := by
              funext i
              simp only [Mem.set, Mem.put, Mem.del]
              split
              · congr 2
                rw [Nat.add_zero, List.take_length, List.drop_eq_nil_of_le (by omega), List.append_nil]
              · rfl
            rw [e3] at this
            rw [List.length_append] at this
            exact this
          · have hsd : Sub (M.del g) M := by
              intro i B hB
              unfold Mem.del at hB
              split at hB
              · cases hB
              · exact hB
            have := hk b c' (by unfold Mem.del; split <;> first | rfl | exact hb) (by rw [List.length_append]; exact hc)
            rw [List.length_append] at this
            exact ⟨_, hsd.both b _, this⟩
        · exact h.elim
    unfold vAppD at happ
    split at happ
    · rename_i hd; exact main hd happ.1 (.inl ⟨rfl, happ.2⟩)
    · rename_i hd; exact main hd happ.1 (.inr ⟨_, _, _, rfl, happ.2⟩)
    · exact happ.elim
  · exact h.elim
/-- clear of a slice of its own. -/
def vClrB (B : Option Blk) (b o n : Nat) (z : Value) (K : Value → Mem → Prop) (M : Mem) : Prop := match B with
  | some (.cells true xs tot) => vBd (o + n ≤ xs.length ∧ flatV z = true) K (.tuple #[]) (M.set b (.cells true (xs.take o ++ List.replicate n z ++ xs.drop (o + n)) tot))
  | _ => False
def vClrD (d : Option TI) (x : Value) (K : Value → Mem → Prop) (M : Mem) : Prop :=
  match d, x with
  | some ⟨.slc _ 1 _ _, _, _⟩, .slice none _ _ => K (.tuple #[]) M
  | some ⟨.slc _ 1 _ _, _, _⟩, .slice (some _) 0 _ => K (.tuple #[]) M
  | some ⟨.slc _ 1 _ z, _, _⟩, .slice (some ⟨b, o, none⟩) (n + 1) _ => vClrB (M b) b o (n + 1) z K M
  | _, _ => False
def vClr (T : Tab) (t : TypeId) (x : Value) (K : Value → Mem → Prop) (M : Mem) : Prop := vClrD (T t) x K M
theorem clear_is (T : Tab) (hT : TabOk P T) (K : Value → Mem → Prop) (t r : TypeId) (x : Value) (h : vClr T t x K M) : SemTo P (Builtin.clear_ #[t] r #[x]) M K := by
  unfold vClr vClrD at h
  split at h
  · rename_i hi
    obtain ⟨⟨u1, I, u2, u3, u4, u5⟩, _⟩ := hT _ _ hi
    unfold Builtin.clear_
    refine semTo_bind (semTo_run _ (fun w _ => run_underlying u1 w) ?_)
    exact semTo_bind (semTo_pure (semTo_pure h))
  · rename_i hi
    obtain ⟨⟨u1, I, u2, u3, u4, u5⟩, _⟩ := hT _ _ hi
    unfold Builtin.clear_
    refine semTo_bind (semTo_run _ (fun w _ => run_underlying u1 w) ?_)
    exact semTo_bind (semTo_pure (semTo_pure h))
  · rename_i e bytes z _ _ b o n c hi
    obtain ⟨⟨u1, I, u2, u3, u4, u5⟩, _⟩ := hT _ _ hi
    unfold vClrB at h
    split at h
    · rename_i xs tot hM
      obtain ⟨⟨h1, hz⟩, hk⟩ := h
      unfold Builtin.clear_
      refine semTo_bind (semTo_run _ (fun w _ => run_underlying u1 w) ?_)
      refine semTo_bind (semTo_run z (fun w _ => run_zero u2 u5 w) ?_)
      rw [zeroCells_one hz]
      refine semTo_rep fun ⟨w, hw⟩ => ?_
      have hle := hw.le hM
      refine semTo_bind ?_
      refine semTo_storeCells _ 0 _ xs tot hM (by omega) (by simp; omega) (fun v hv => by
        have : v = z := by simpa using hv
        rw [this]; exact hz) ?_
      refine semTo_pure ?_
      simpa using hk
    · exact h.elim
  · exact h.elim
end
end Go.Proofs.Ytbefijbmgmbphaa
