/- The plain law of grown words: letters whose iterates become empty. -/
import Derived.Test.YtbefijbmgmbphaaM4
import Derived.Test.YtbefijbmgmbphaaC17
namespace Go.Proofs.Ytbefijbmgmbphaa
open Go
set_option linter.unusedSimpArgs false
set_option linter.unusedVariables false

/-- Is the r-th iterate of a letter empty? -/
def dead (ws : List (List UInt8)) : Nat → UInt8 → Bool
  | 0, _ => false
  | r + 1, c => (ws.getD (c.toNat - 97) []).all (dead ws r)
theorem dead_img (ws : List (List UInt8)) (r : Nat) : ∀ l : List UInt8, (imgOf ws l).all (dead ws r) = l.all (dead ws (r + 1))
  | [] => rfl
  | u :: l => by rw [imgOf_cons, List.all_append, dead_img ws r l, List.all_cons]; rfl
def itr (ws : List (List UInt8)) : Nat → List UInt8 → List UInt8
  | 0, w => w
  | j + 1, w => imgOf ws (itr ws j w)
theorem itr_all (ws : List (List UInt8)) (w : List UInt8) : ∀ j r, (itr ws j w).all (dead ws r) = w.all (dead ws (r + j))
  | 0, r => rfl
  | j + 1, r => by
    show (imgOf ws (itr ws j w)).all (dead ws r) = _
    rw [dead_img, itr_all ws w j (r + 1), Nat.add_right_comm]; rfl
theorem all_dead0 (ws : List (List UInt8)) (l : List UInt8) : l.all (dead ws 0) = l.isEmpty := by
  cases l with
  | nil => rfl
  | cons a l => rfl
theorem itr_nil (ws : List (List UInt8)) (j : Nat) (w : List UInt8) : (itr ws j w).isEmpty = w.all (dead ws j) := by
  rw [← all_dead0 ws, itr_all, Nat.zero_add]
theorem dead_up (ws : List (List UInt8)) : ∀ r c, dead ws r c = true → dead ws (r + 1) c = true
  | 0, c, h => by cases h
  | r + 1, c, h => by
    have h : (ws.getD (c.toNat - 97) []).all (dead ws r) = true := h
    show (ws.getD (c.toNat - 97) []).all (dead ws (r + 1)) = true
    rw [List.all_eq_true] at h ⊢
    exact fun x hx => dead_up ws r x (h x hx)
theorem dead_le (ws : List (List UInt8)) {r s : Nat} (h : r ≤ s) {c : UInt8} (hd : dead ws r c = true) : dead ws s c = true := by
  obtain ⟨d, rfl⟩ : ∃ d, s = r + d := ⟨s - r, by omega⟩
  clear h
  induction d with
  | zero => exact hd
  | succ d ih => exact dead_up ws _ c ih
theorem countP_lt {α : Type} {p q : α → Bool} : ∀ {l : List α}, (∀ x ∈ l, p x = true → q x = true) → ∀ y, y ∈ l → q y = true → p y = false → l.countP p < l.countP q
  | [], _, y, hy, _, _ => by cases hy
  | a :: l, h, y, hy, hq, hp => by
    rw [List.countP_cons, List.countP_cons]
    have hm : l.countP p ≤ l.countP q := List.countP_mono_left fun x hx => h x (List.mem_cons_of_mem _ hx)
    rcases List.mem_cons.1 hy with rfl | hy
    · rw [hq, hp]; simp; omega
    · have := countP_lt (fun x hx => h x (List.mem_cons_of_mem _ hx)) y hy hq hp
      have ha := h a List.mem_cons_self
      by_cases h1 : p a = true
      · rw [if_pos h1, if_pos (ha h1)]; omega
      · rw [if_neg h1]; omega
def cntD (ws : List (List UInt8)) (r : Nat) : Nat := (List.range ws.length).countP fun i => dead ws r (ltr i)
theorem cntD_step (ws : List (List UInt8)) : ∀ r, r ≤ cntD ws r ∨ ∃ q, q < r ∧ ∀ i, i < ws.length → dead ws (q + 1) (ltr i) = true → dead ws q (ltr i) = true
  | 0 => .inl (Nat.zero_le _)
  | r + 1 => by
    rcases cntD_step ws r with h | ⟨q, h1, h2⟩
    · by_cases hs : ∀ i, i < ws.length → dead ws (r + 1) (ltr i) = true → dead ws r (ltr i) = true
      · exact .inr ⟨r, by omega, hs⟩
      · have hs2 : ∃ i, i < ws.length ∧ dead ws (r + 1) (ltr i) = true ∧ ¬ dead ws r (ltr i) = true := by
          apply Classical.byContradiction
          intro hno
          exact hs fun i hi h1 => Classical.byContradiction fun h2 => hno ⟨i, hi, h1, h2⟩
        obtain ⟨i, hi, h1, h2⟩ := hs2
        have := countP_lt (p := fun i => dead ws r (ltr i)) (q := fun i => dead ws (r + 1) (ltr i)) (l := List.range ws.length) (fun x _ h => dead_up ws r _ h) i (List.mem_range.2 hi) h1 (by simpa using h2)
        left
        unfold cntD at *
        omega
    · exact .inr ⟨q, by omega, h2⟩
theorem lt_ltr {ws : List (List UInt8)} {u : UInt8} (h : 97 ≤ u.toNat ∧ u.toNat - 97 < ws.length) : ltr (u.toNat - 97) = u := by
  unfold ltr
  rw [show 97 + (u.toNat - 97) = u.toNat by omega]
  simp
/-- Nothing becomes empty later than after as many steps as there are letters. -/
theorem dead_max {ws : List (List UInt8)} (hm : isMor ws = true) : ∀ r i, i < ws.length → dead ws r (ltr i) = true → dead ws ws.length (ltr i) = true := by
  have h5 := mor_len hm
  rcases cntD_step ws ws.length with h | ⟨q, hq, hst⟩
  · intro r i hi _
    have hle : (List.range ws.length).countP (fun i => dead ws ws.length (ltr i)) ≤ (List.range ws.length).length := List.countP_le_length
    rw [List.length_range] at hle
    have he : (List.range ws.length).countP (fun i => dead ws ws.length (ltr i)) = (List.range ws.length).length := by
      rw [List.length_range]
      unfold cntD at h
      omega
    exact (List.countP_eq_length.1 he) i (List.mem_range.2 hi)
  · have hall : ∀ d i, i < ws.length → dead ws (q + d) (ltr i) = true → dead ws q (ltr i) = true := by
      intro d
      induction d with
      | zero => intro i _ h; exact h
      | succ d ih =>
        intro i hi h
        refine hst i hi ?_
        have h : (ws.getD ((ltr i).toNat - 97) []).all (dead ws (q + d)) = true := h
        show (ws.getD ((ltr i).toNat - 97) []).all (dead ws q) = true
        rw [List.all_eq_true] at h ⊢
        intro c hc
        have hlt : Lt ws (ws.getD ((ltr i).toNat - 97) []) := by
          have e : (ltr i).toNat - 97 < ws.length := by rw [ltr_toNat (by omega)]; omega
          rw [List.getD_eq_getElem?_getD, List.getElem?_eq_getElem e]
          exact lt_of (isWord_all (mor_ok hm (List.getElem_mem e)).2.1) (mor_ok hm (List.getElem_mem e)).2.2
        have hl := hlt c hc
        rw [← lt_ltr hl]
        exact ih _ hl.2 (by rw [lt_ltr hl]; exact h c hc)
    intro r i hi h
    refine dead_le ws (Nat.le_of_lt hq) ?_
    by_cases hr : r ≤ q
    · exact dead_le ws hr h
    · exact hall (r - q) i hi (by rw [show q + (r - q) = r by omega]; exact h)
theorem imgOf_append (ws : List (List UInt8)) : ∀ a b : List UInt8, imgOf ws (a ++ b) = imgOf ws a ++ imgOf ws b
  | [], b => by rw [imgOf_nil]; rfl
  | x :: a, b => by rw [List.cons_append, imgOf_cons, imgOf_cons, imgOf_append ws a b, List.append_assoc]
theorem itr_append (ws : List (List UInt8)) (a b : List UInt8) : ∀ j, itr ws j (a ++ b) = itr ws j a ++ itr ws j b
  | 0 => rfl
  | j + 1 => by
    show imgOf ws (itr ws j (a ++ b)) = _
    rw [itr_append ws a b j, imgOf_append]; rfl
theorem itr_shift (ws : List (List UInt8)) (w : List UInt8) : ∀ j, itr ws j (imgOf ws w) = itr ws (j + 1) w
  | 0 => rfl
  | j + 1 => by
    show imgOf ws (itr ws j (imgOf ws w)) = _
    rw [itr_shift ws w j]; rfl
/-- The letters of an image, each once. -/
def presT (ws : List (List UInt8)) (x : List UInt8) (n : Nat) : List UInt8 := ((List.range n).filter fun i => decide (ltr i ∈ imgOf ws x)).map ltr
theorem presT_succ (ws : List (List UInt8)) (x : List UInt8) (n : Nat) : presT ws x (n + 1) = presT ws x n ++ if ltr n ∈ imgOf ws x then [ltr n] else [] := by
  unfold presT
  rw [List.range_succ, List.filter_append, List.map_append]
  congr 1
  by_cases h : ltr n ∈ imgOf ws x <;> simp [h]
theorem presT_len (ws : List (List UInt8)) (x : List UInt8) (n : Nat) : (presT ws x n).length ≤ n := by
  unfold presT
  rw [List.length_map]
  have := List.length_filter_le (fun i => decide (ltr i ∈ imgOf ws x)) (List.range n)
  rw [List.length_range] at this
  exact this
def kepS (ws : List (List UInt8)) : Nat → List UInt8 → List UInt8
  | 0, w => w
  | r + 1, w => presT ws (kepS ws r w) ws.length
theorem presT_lt {ws : List (List UInt8)} (h5 : ws.length ≤ 5) (x : List UInt8) {n : Nat} (hn : n ≤ ws.length) : Lt ws (presT ws x n) := by
  intro u hu
  obtain ⟨i, hi, rfl⟩ := List.mem_map.1 hu
  have := List.mem_range.1 (List.mem_filter.1 hi).1
  rw [ltr_toNat (by omega)]
  omega
theorem presT_all {ws : List (List UInt8)} (x : List UInt8) (hx : Lt ws (imgOf ws x)) (p : UInt8 → Bool) : (presT ws x ws.length).all p = (imgOf ws x).all p := by
  rw [Bool.eq_iff_iff, List.all_eq_true, List.all_eq_true]
  constructor
  · intro h c hc
    have hl := hx c hc
    refine h c (List.mem_map.2 ⟨c.toNat - 97, List.mem_filter.2 ⟨List.mem_range.2 hl.2, ?_⟩, lt_ltr hl⟩)
    rw [lt_ltr hl]; exact decide_eq_true hc
  · intro h c hc
    obtain ⟨i, hi, rfl⟩ := List.mem_map.1 hc
    exact h _ (of_decide_eq_true (List.mem_filter.1 hi).2)
theorem kepS_lt {ws : List (List UInt8)} (hm : isMor ws = true) {w : List UInt8} (hw : Lt ws w) : ∀ r, Lt ws (kepS ws r w)
  | 0 => hw
  | r + 1 => presT_lt (mor_len hm).2 _ (Nat.le_refl _)
theorem kepS_len {ws : List (List UInt8)} (hm : isMor ws = true) {w : List UInt8} (hw : w.length ≤ 60) : ∀ r, (kepS ws r w).length ≤ 60
  | 0 => hw
  | r + 1 => by
    have := presT_len ws (kepS ws r w) ws.length
    have := (mor_len hm).2
    show (presT ws (kepS ws r w) ws.length).length ≤ 60
    omega
theorem kepS_all {ws : List (List UInt8)} (hm : isMor ws = true) {w : List UInt8} (hw : Lt ws w) : ∀ r s, (kepS ws r w).all (dead ws s) = w.all (dead ws (s + r))
  | 0, s => rfl
  | r + 1, s => by
    show (presT ws (kepS ws r w) ws.length).all (dead ws s) = _
    rw [presT_all _ (img_lt hm (kepS_lt hm hw r)), dead_img, kepS_all hm hw r (s + 1), Nat.add_right_comm]; rfl
theorem kepS_nil {ws : List (List UInt8)} (hm : isMor ws = true) {w : List UInt8} (hw : Lt ws w) (r : Nat) : (kepS ws r w).isEmpty = w.all (dead ws r) := by
  rw [← all_dead0 ws, kepS_all hm hw, Nat.zero_add]
/-- Marks of letters whose iterates become empty. -/
def Snd (ws : List (List UInt8)) (out : List Bool) : Prop := ∀ i, i < ws.length → out[i]? = some true → dead ws (out.count true) (ltr i) = true
def mtB (ws : List (List UInt8)) (out : List Bool) (i : Nat) : Bool := (ws.getD i []).all fun c => out.getD (c.toNat - 97) false
def Cls (ws : List (List UInt8)) (out : List Bool) (i : Nat) : Prop := mtB ws out i = true → out[i]? = some true
theorem dead_ltr {ws : List (List UInt8)} (hm : isMor ws = true) (r : Nat) {i : Nat} (hi : i < ws.length) : dead ws (r + 1) (ltr i) = (ws.getD i []).all (dead ws r) := by
  have h5 := mor_len hm
  show (ws.getD ((ltr i).toNat - 97) []).all (dead ws r) = _
  rw [ltr_toNat (by omega), show 97 + i - 97 = i by omega]
theorem row_lt {ws : List (List UInt8)} (hm : isMor ws = true) {i : Nat} (hi : i < ws.length) : Lt ws (ws.getD i []) := by
  rw [List.getD_eq_getElem?_getD, List.getElem?_eq_getElem hi]
  exact lt_of (isWord_all (mor_ok hm (List.getElem_mem hi)).2.1) (mor_ok hm (List.getElem_mem hi)).2.2
theorem count_set {out : List Bool} {i : Nat} (h : out[i]? = some false) : (out.set i true).count true = out.count true + 1 := by
  induction out generalizing i with
  | nil => cases h
  | cons a l ih =>
    cases i with
    | zero =>
      have : a = false := by simpa using h
      subst this
      simp
    | succ i =>
      rw [List.set_cons_succ, List.count_cons, List.count_cons, ih (by simpa using h)]
      omega
theorem snd_set {ws : List (List UInt8)} (hm : isMor ws = true) {out : List Bool} (h : Snd ws out) {i : Nat} (hi : i < ws.length) (hf : out[i]? = some false) (hmt : mtB ws out i = true) : Snd ws (out.set i true) := by
  intro j hj hoj
  rw [count_set hf]
  by_cases e : i = j
  · subst e
    rw [dead_ltr hm _ hi, List.all_eq_true]
    unfold mtB at hmt
    rw [List.all_eq_true] at hmt
    intro c hc
    have hl := row_lt hm hi c hc
    have := hmt c hc
    rw [← lt_ltr hl]
    refine h _ hl.2 ?_
    rw [List.getD_eq_getElem?_getD] at this
    cases ho : out[c.toNat - 97]? with
    | none => rw [ho] at this; cases this
    | some b => rw [ho] at this; exact congrArg some this
  · rw [List.getElem?_set_ne e] at hoj
    exact dead_up ws _ _ (h j hj hoj)
theorem mort_fin {ws : List (List UInt8)} (hm : isMor ws = true) {out : List Bool} (hl : out.length = ws.length) (h : Snd ws out) (hc : ∀ i, i < ws.length → Cls ws out i) : ∀ i, i < ws.length → out[i]? = some (dead ws ws.length (ltr i)) := by
  have hle : out.count true ≤ ws.length := by rw [← hl]; exact List.count_le_length
  have hall : ∀ r i, i < ws.length → dead ws r (ltr i) = true → out[i]? = some true := by
    intro r
    induction r with
    | zero => intro i _ h; cases h
    | succ r ih =>
      intro i hi hd
      rw [dead_ltr hm _ hi, List.all_eq_true] at hd
      refine hc i hi ?_
      unfold mtB
      rw [List.all_eq_true]
      intro c hcm
      have hlt := row_lt hm hi c hcm
      have := ih _ hlt.2 (by rw [lt_ltr hlt]; exact hd c hcm)
      rw [List.getD_eq_getElem?_getD, this]; rfl
  intro i hi
  have hi' : i < out.length := by omega
  rw [List.getElem?_eq_getElem hi']
  congr 1
  cases hd : dead ws ws.length (ltr i) with
  | true =>
    have := hall _ i hi hd
    rw [List.getElem?_eq_getElem hi'] at this
    exact Option.some.inj this
  | false =>
    cases ho : out[i] with
    | false => rfl
    | true =>
      have := dead_le ws hle (h i hi (by rw [List.getElem?_eq_getElem hi', ho]))
      rw [hd] at this; cases this
/-- The longer iterates of a letter that begins its image. -/
theorem grow_len {ws : List (List UInt8)} (hm : isMor ws = true) {a : Nat} {u : List UInt8} (ha : a < ws.length) (hu : ws.getD a [] = ltr a :: u) (hd : u.all (dead ws ws.length) = false) (j : Nat) : (itr ws j [ltr a]).length < (itr ws (j + 1) [ltr a]).length := by
  have h5 := mor_len hm
  have e1 : imgOf ws [ltr a] = [ltr a] ++ u := by
    rw [imgOf_cons, imgOf_nil, List.append_nil, ltr_toNat (by omega), show 97 + a - 97 = a by omega, hu]; rfl
  rw [← itr_shift, e1, itr_append, List.length_append]
  have hne : (itr ws j u).isEmpty = false := by
    rw [itr_nil]
    cases hq : u.all (dead ws j) with
    | false => rfl
    | true =>
      have hul : Lt ws u := fun c hc => row_lt hm ha c (by rw [hu]; exact List.mem_cons_of_mem _ hc)
      have : u.all (dead ws ws.length) = true := by
        rw [List.all_eq_true] at hq ⊢
        intro c hc
        have hl := hul c hc
        rw [← lt_ltr hl]
        exact dead_max hm j _ hl.2 (by rw [lt_ltr hl]; exact hq c hc)
      rw [hd] at this; cases this
  cases hq : itr ws j u with
  | nil => rw [hq] at hne; cases hne
  | cons x l => simp
theorem itr_lt {ws : List (List UInt8)} (hm : isMor ws = true) {w : List UInt8} (hw : Lt ws w) : ∀ j, Lt ws (itr ws j w)
  | 0 => hw
  | j + 1 => img_lt hm (itr_lt hm hw j)
end Go.Proofs.Ytbefijbmgmbphaa
