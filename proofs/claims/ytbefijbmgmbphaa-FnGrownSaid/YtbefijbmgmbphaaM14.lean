/- Plain law: lengths of iterates, sums of rows, beginnings of grown words. -/
import Derived.Test.YtbefijbmgmbphaaC34
namespace Go.Proofs.Ytbefijbmgmbphaa
open Go
set_option linter.unusedSimpArgs false
set_option linter.unusedVariables false

theorem sum_map_add {α : Type} (f g : α → Nat) : ∀ l : List α, (l.map fun k => f k + g k).sum = (l.map f).sum + (l.map g).sum
  | [] => rfl
  | a :: l => by simp only [List.map_cons, List.sum_cons, sum_map_add f g l]; omega
theorem sum_ind (j : Nat) : ∀ m : Nat, ((List.range m).map fun k => if j = k then 1 else 0).sum = if j < m then 1 else 0
  | 0 => rfl
  | m + 1 => by
    rw [List.range_succ, List.map_append, List.sum_append, sum_ind j m]
    by_cases h : j = m
    · subst h; simp
    · by_cases h2 : j < m
      · rw [if_pos h2, if_pos (by omega)]; simp [h]
      · rw [if_neg h2, if_neg (by omega)]; simp [h]
theorem cnt_sum (m : Nat) : ∀ {w : List UInt8}, (∀ u ∈ w, 97 ≤ u.toNat ∧ u.toNat - 97 < m) → ((List.range m).map fun k => w.countP fun u => u.toNat == 97 + k).sum = w.length
  | [], _ => by
    rw [List.length_nil]
    have e : (fun k : Nat => ([] : List UInt8).countP fun u => u.toNat == 97 + k) = fun k => 0 := rfl
    rw [e]
    have : ∀ l : List Nat, (l.map fun _ => 0).sum = 0 := fun l => by
      induction l with
      | nil => rfl
      | cons a l ih => rw [List.map_cons, List.sum_cons, ih]
    exact this _
  | c :: w, h => by
    have h1 := h c (List.mem_cons_self ..)
    have e : (fun k : Nat => (c :: w).countP fun u => u.toNat == 97 + k) = fun k => (w.countP fun u => u.toNat == 97 + k) + if c.toNat - 97 = k then 1 else 0 := by
      funext k
      rw [List.countP_cons]
      congr 1
      by_cases hk : c.toNat - 97 = k
      · rw [if_pos hk, if_pos (by rw [beq_iff_eq]; omega)]
      · rw [if_neg hk, if_neg (by rw [beq_iff_eq]; omega)]
    rw [e, sum_map_add, sum_ind, if_pos h1.2, cnt_sum m fun u hu => h u (List.mem_cons_of_mem _ hu), List.length_cons]
theorem rowN_sum {m : Nat} (h5 : m ≤ 5) {w : List UInt8} (h : ∀ u ∈ w, 97 ≤ u.toNat ∧ u.toNat - 97 < m) : (rowN m w).sum = w.length := by
  rw [← cnt_sum m h]
  unfold rowN ncounts
  rw [← List.map_take, List.take_range, Nat.min_eq_left h5]
theorem addTo_sum (n : Nat) : ∀ {acc row : List Nat}, acc.length = row.length → (addTo acc n row).sum = acc.sum + n * row.sum
  | [], [], _ => by simp [addTo]
  | a :: acc, t :: row, h => by
    have ih := addTo_sum n (acc := acc) (row := row) (by simpa using h)
    have e : addTo (a :: acc) n (t :: row) = (a + n * t) :: addTo acc n row := rfl
    rw [e, List.sum_cons, List.sum_cons, List.sum_cons, ih, Nat.mul_add]
    omega
  | [], _ :: _, h => by simp at h
  | _ :: _, [], h => by simp at h
theorem nextTo_sum {ws : List (List UInt8)} (hm : isMor ws = true) (v : List Nat) {i : Nat} (hi : i < ws.length) : (nextTo ws v (i + 1)).sum = (nextTo ws v i).sum + v.getD i 0 * (ws.getD i []).length := by
  have h5 := (mor_len hm).2
  rw [nextTo_succ, addTo_sum _ (by rw [nextTo_length h5, rowN_length h5]), rowN_sum h5 (row_lt hm hi)]
theorem nextTo_uni {ws : List (List UInt8)} (hm : isMor ws = true) {d : Nat} (hd : ∀ i, i < ws.length → (ws.getD i []).length = d) (v : List Nat) (hv : v.length = ws.length) : ∀ i, i ≤ ws.length → (nextTo ws v i).sum = (v.take i).sum * d
  | 0, _ => by
    rw [nextTo_zero, List.take_zero]
    simp
  | i + 1, h => by
    rw [nextTo_sum hm v (by omega), nextTo_uni hm hd v hv i (by omega), hd i (by omega), take_snoc v (by omega), List.sum_append, List.sum_singleton, Nat.add_mul, List.getD_eq_getElem?_getD, List.getElem?_eq_getElem (by omega)]
    rfl
theorem sums_uni {ws : List (List UInt8)} (hm : isMor ws = true) {d : Nat} (hd : ∀ i, i < ws.length → (ws.getD i []).length = d) (a r : Nat) : (vecA ws a (r + 1)).sum = (vecA ws a r).sum * d := by
  have h5 := (mor_len hm).2
  rw [vecA_succ, nextTo_uni hm hd _ (vecA_length h5 a r) _ (Nat.le_refl _), List.take_of_length_le (by rw [vecA_length h5]; exact Nat.le_refl _)]
theorem unit_at {n a i : Nat} (ha : a < n) : ((List.replicate n 0).set a 1).getD i 0 = if a = i then 1 else 0 := by
  rw [List.getD_eq_getElem?_getD]
  by_cases e : a = i
  · subst e
    rw [List.getElem?_set_self (by rw [List.length_replicate]; exact ha), if_pos rfl]; rfl
  · rw [List.getElem?_set_ne e, if_neg e, List.getElem?_replicate]
    split <;> rfl
theorem nextTo_one {ws : List (List UInt8)} (hm : isMor ws = true) {a : Nat} (ha : a < ws.length) : ∀ i, i ≤ ws.length → (nextTo ws (vecA ws a 0) i).sum = if a < i then (ws.getD a []).length else 0
  | 0, _ => by
    rw [nextTo_zero, if_neg (by omega)]
    simp
  | i + 1, h => by
    rw [nextTo_sum hm _ (by omega), nextTo_one hm ha i (by omega), vecA_zero, unit_at ha]
    by_cases e : a = i
    · subst e
      rw [if_pos rfl, if_neg (by omega), if_pos (by omega)]
      omega
    · rw [if_neg e]
      by_cases h2 : a < i
      · rw [if_pos h2, if_pos (by omega)]; omega
      · rw [if_neg h2, if_neg (by omega)]; omega
theorem sums_one {ws : List (List UInt8)} (hm : isMor ws = true) {a : Nat} (ha : a < ws.length) : (vecA ws a 1).sum = (ws.getD a []).length := by
  rw [vecA_succ, nextTo_one hm ha _ (Nat.le_refl _), if_pos ha]
theorem uni_len {ws : List (List UInt8)} (h : uniB ws = true) : ∀ i, i < ws.length → (ws.getD i []).length = (ws.getD 0 []).length := by
  unfold uniB at h
  rw [Bool.and_eq_true, beq_iff_eq] at h
  have key : ∀ i, i < ws.length → (ws.getD i []).length = mnL (lens ws) := by
    intro i hi
    have hm : (ws.getD i []).length ∈ lens ws := List.mem_map_of_mem (getD_mem hi)
    have h1 := mnL_le hm
    have h2 := le_mxL hm
    omega
  intro i hi
  rw [key i hi, key 0 (by omega)]
theorem outS_at {ws : List (List UInt8)} {a r i : Nat} (h : i < r) : (outS ws a r)[i]? = some (vecA ws a i).sum := by
  unfold outS
  rw [List.getElem?_map, List.getElem?_range h]; rfl
/-- What a letter grows to. -/
theorem gr_pre {ws : List (List UInt8)} (hm : isMor ws = true) {a : Nat} (ha : a < ws.length) {u : List UInt8} (hu : ws.getD a [] = ltr a :: u) (j : Nat) : itr ws (j + 1) [ltr a] = itr ws j [ltr a] ++ itr ws j u := by
  have h5 := mor_len hm
  have e1 : imgOf ws [ltr a] = [ltr a] ++ u := by
    rw [imgOf_cons, imgOf_nil, List.append_nil, ltr_toNat (by omega), show 97 + a - 97 = a by omega, hu]; rfl
  rw [← itr_shift, e1, itr_append]
theorem grF_is {ws : List (List UInt8)} {n : Nat} {x : List UInt8} (hg : ∀ j, (itr ws j x).length < (itr ws (j + 1) x).length) : ∀ f j, n ≤ (itr ws j x).length + f → ∃ J, grF ws n f (itr ws j x) = (itr ws J x).take n ∧ n ≤ (itr ws J x).length
  | 0, j, h => ⟨j, rfl, h⟩
  | f + 1, j, h => by
    by_cases hl : (itr ws j x).length < n
    · have := hg j
      obtain ⟨J, h1, h2⟩ := grF_is (n := n) hg f (j + 1) (by omega)
      exact ⟨J, by unfold grF; rw [if_pos hl]; exact h1, h2⟩
    · exact ⟨j, by unfold grF; rw [if_neg hl], by omega⟩
theorem grT_is {ws : List (List UInt8)} {a n : Int} (h : grC ws a n = 0) : (grT ws a n).length = n.toNat ∧ ∀ m, m ≤ (grT ws a n).length → m ≤ (imgOf ws (grT ws a n)).length → (imgOf ws (grT ws a n)).take m = (grT ws a n).take m := by
  unfold grC at h
  split at h
  · rename_i h0
    split at h
    · rename_i hok
      obtain ⟨hm, h1, h2, h3, h4⟩ := codeL_zero h0
      unfold grT
      rw [if_pos h0, if_pos hok]
      have ha : a.toNat < ws.length := by omega
      unfold grOk at hok
      cases hw : ws.getD a.toNat [] with
      | nil => rw [hw] at hok; cases hok
      | cons c u =>
        rw [hw] at hok
        simp only [Bool.and_eq_true, beq_iff_eq, Bool.not_eq_true'] at hok
        obtain ⟨rfl, hd⟩ := hok
        obtain ⟨J, e1, e2⟩ := grF_is (n := n.toNat) (x := [ltr a.toNat]) (fun j => grow_len hm ha hw hd j) n.toNat 0 (by simp)
        have e1 : grF ws n.toNat n.toNat [ltr a.toNat] = (itr ws J [ltr a.toNat]).take n.toNat := e1
        rw [e1]
        refine ⟨by rw [List.length_take]; omega, fun m hm1 hm2 => ?_⟩
        have p1 : itr ws (J + 1) [ltr a.toNat] = imgOf ws ((itr ws J [ltr a.toNat]).take n.toNat) ++ imgOf ws ((itr ws J [ltr a.toNat]).drop n.toNat) := by
          rw [← imgOf_append, List.take_append_drop]; rfl
        have p2 : itr ws (J + 1) [ltr a.toNat] = (itr ws J [ltr a.toNat]).take n.toNat ++ ((itr ws J [ltr a.toNat]).drop n.toNat ++ itr ws J u) := by
          rw [gr_pre hm ha hw, ← List.append_assoc, List.take_append_drop]
        have q1 := congrArg (List.take m) p1
        have q2 := congrArg (List.take m) p2
        rw [List.take_append_of_le_length hm2] at q1
        rw [List.take_append_of_le_length hm1] at q2
        rw [← q1, q2]
    · cases h
  · rename_i h0; exact absurd h h0
theorem grT_no {ws : List (List UInt8)} {a n : Int} (h : grC ws a n ≠ 0) : grT ws a n = [] := by
  unfold grC at h
  unfold grT
  split at h
  · rename_i h0
    rw [if_pos h0]
    split at h
    · exact absurd rfl h
    · rename_i h1; rw [if_neg h1]
  · rename_i h0; rw [if_neg h0]
theorem grT_len (ws : List (List UInt8)) (a n : Int) : (grT ws a n).length ≤ 60 := by
  by_cases h : grC ws a n = 0
  · have := (grT_is h).1
    unfold grC at h
    split at h
    · rename_i h0
      obtain ⟨_, _, _, _, h4⟩ := codeL_zero h0
      omega
    · rename_i h0; exact absurd h h0
  · rw [grT_no h]; simp
theorem iter_one {ws : List (List UInt8)} {w : List UInt8} (h : iterC ws w 1 = 0) : iterT ws w 1 = imgOf ws w := by
  unfold iterC at h
  unfold iterT
  split at h
  · rename_i h0
    rw [if_pos h0]
    rw [show (1 : Int).toNat = 1 from rfl, iterW_succ] at h ⊢
    split at h
    · rename_i x hx
      split at hx
      · cases hx
      · exact (Option.some.inj hx).symm
    · cases h
  · rename_i h0; exact absurd h h0
theorem img60 {ws : List (List UInt8)} {w : List UInt8} (h : iterC ws w 1 = 0) : (imgOf ws w).length ≤ 60 := by
  unfold iterC at h
  split at h
  · rename_i h0
    rw [show (1 : Int).toNat = 1 from rfl, iterW_succ] at h
    by_cases h6 : 60 < (imgOf ws w).length
    · rw [if_pos h6] at h; cases h
    · omega
  · rename_i h0; exact absurd h h0
theorem after_is {ws : List (List UInt8)} {a k : Int} (h : afterC ws a k = 0) : isMor ws = true ∧ 0 ≤ a ∧ a < ws.length ∧ 0 ≤ k ∧ k ≤ 20 ∧ afterR ws a k = outS ws a.toNat (k.toNat + 1) ∧ okS ws a.toNat (k.toNat + 1) = true := by
  unfold afterC at h
  split at h
  · rename_i h0
    obtain ⟨h1, h2, h3, h4, h5⟩ := codeL_zero h0
    split at h
    · rename_i hok
      refine ⟨h1, h2, h3, h4, h5, ?_, hok⟩
      unfold afterR
      rw [if_pos h0, if_pos hok]
    · cases h
  · rename_i h0; exact absurd h h0
theorem okS_at {ws : List (List UInt8)} {a r i : Nat} (h : okS ws a r = true) (hi : i < r) : (vecA ws a i).sum ≤ 1000000000000000 := by
  unfold okS at h
  have := List.all_eq_true.1 h i (List.mem_range.2 hi)
  exact of_decide_eq_true this
theorem after_len (ws : List (List UInt8)) (a k : Int) : (afterR ws a k).length ≤ 21 := by
  unfold afterR
  split
  · rename_i h0
    obtain ⟨_, _, _, _, h5⟩ := codeL_zero h0
    split
    · rw [outS_length]; omega
    · simp
  · simp
end Go.Proofs.Ytbefijbmgmbphaa
