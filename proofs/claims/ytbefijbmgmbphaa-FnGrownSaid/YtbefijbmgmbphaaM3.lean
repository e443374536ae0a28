/- Plain law: numbers of letters of iterates. -/
import Derived.Test.YtbefijbmgmbphaaC22
namespace Go.Proofs.Ytbefijbmgmbphaa
open Go
/-- A list of numbers and n times another one. -/
def addTo (acc : List Nat) (n : Nat) (row : List Nat) : List Nat := List.zipWith (fun a t => a + n * t) acc row
def addJ (acc : List Nat) (n : Nat) (row : List Nat) (j : Nat) : List Nat := (addTo acc n row).take j ++ acc.drop j
theorem addTo_length {acc row : List Nat} (n : Nat) (h : acc.length = row.length) : (addTo acc n row).length = acc.length := by simp [addTo, h]
theorem addTo_get {acc row : List Nat} {n j : Nat} (h1 : j < acc.length) (h2 : j < row.length) : (addTo acc n row)[j]? = some (acc[j] + n * row[j]) := by
  unfold addTo
  rw [List.getElem?_zipWith, List.getElem?_eq_getElem h1, List.getElem?_eq_getElem h2]
theorem addJ_zero (acc : List Nat) (n : Nat) (row : List Nat) : addJ acc n row 0 = acc := by simp [addJ]
theorem addJ_length {acc row : List Nat} {n j : Nat} (h : acc.length = row.length) (hj : j ≤ acc.length) : (addJ acc n row j).length = acc.length := by
  unfold addJ
  rw [List.length_append, List.length_take, addTo_length n h, List.length_drop]
  omega
theorem addJ_all {acc row : List Nat} {n : Nat} (h : acc.length = row.length) : addJ acc n row acc.length = addTo acc n row := by
  unfold addJ
  rw [List.take_of_length_le (by rw [addTo_length n h]; exact Nat.le_refl _), List.drop_length, List.append_nil]
theorem addJ_get {acc row : List Nat} {n j : Nat} (h : acc.length = row.length) (hj : j < acc.length) : (addJ acc n row j)[j]? = some acc[j] := by
  unfold addJ
  rw [List.getElem?_append_right (by rw [List.length_take]; omega), List.length_take, addTo_length n h, Nat.min_eq_left (by omega), Nat.sub_self, List.getElem?_drop, Nat.add_zero, List.getElem?_eq_getElem hj]
theorem addJ_succ {acc row : List Nat} {n j : Nat} (h : acc.length = row.length) (hj : j < acc.length) : (addJ acc n row j).set j (acc[j] + n * row[j]'(by omega)) = addJ acc n row (j + 1) := by
  unfold addJ
  have hl := addTo_length n h
  rw [List.set_append_right _ _ (by rw [List.length_take]; omega), List.length_take, hl, Nat.min_eq_left (by omega), Nat.sub_self, List.drop_eq_getElem_cons hj, List.set_cons_zero, take_snoc (addTo acc n row) (by omega), List.append_assoc]
  have hg := addTo_get (n := n) hj (show j < row.length by omega)
  rw [List.getElem?_eq_getElem (by omega)] at hg
  injection hg with hg
  rw [hg]; rfl
def rowN (m : Nat) (w : List UInt8) : List Nat := (ncounts w).take m
theorem rowN_rowM (m : Nat) (w : List UInt8) : ints (rowM m w) = natsV (rowN m w) := by
  unfold rowM rowN natsV
  rw [List.map_take]
  show ints ((counts w).take m) = (natsV (ncounts w)).take m
  rw [← counts_nats]
  unfold ints
  rw [List.map_take]
theorem rowN_length {m : Nat} (h : m ≤ 5) (w : List UInt8) : (rowN m w).length = m := by
  unfold rowN ncounts
  rw [List.length_take, List.length_map, List.length_range]; omega
theorem rowN_le {m : Nat} {w : List UInt8} {x : Nat} (h : x ∈ rowN m w) : x ≤ w.length := by
  unfold rowN ncounts at h
  obtain ⟨k, _, rfl⟩ := List.mem_map.1 (List.mem_of_mem_take h)
  exact List.countP_le_length
/-- The sum of the rows, the first i of them. -/
def nextTo (ws : List (List UInt8)) (v : List Nat) : Nat → List Nat
  | 0 => List.replicate ws.length 0
  | i + 1 => addTo (nextTo ws v i) (v.getD i 0) (rowN ws.length (ws.getD i []))
theorem nextTo_zero (ws : List (List UInt8)) (v : List Nat) : nextTo ws v 0 = List.replicate ws.length 0 := rfl
theorem nextTo_succ (ws : List (List UInt8)) (v : List Nat) (i : Nat) : nextTo ws v (i + 1) = addTo (nextTo ws v i) (v.getD i 0) (rowN ws.length (ws.getD i [])) := rfl
theorem nextTo_length {ws : List (List UInt8)} (h : ws.length ≤ 5) (v : List Nat) : ∀ i, (nextTo ws v i).length = ws.length
  | 0 => by simp [nextTo]
  | i + 1 => by
    have ih := nextTo_length h v i
    rw [nextTo_succ, addTo_length _ (by rw [ih, rowN_length h]), ih]
def vecA (ws : List (List UInt8)) (a : Nat) : Nat → List Nat
  | 0 => (List.replicate ws.length 0).set a 1
  | r + 1 => nextTo ws (vecA ws a r) ws.length
theorem vecA_zero (ws : List (List UInt8)) (a : Nat) : vecA ws a 0 = (List.replicate ws.length 0).set a 1 := rfl
theorem vecA_succ (ws : List (List UInt8)) (a r : Nat) : vecA ws a (r + 1) = nextTo ws (vecA ws a r) ws.length := rfl
theorem vecA_length {ws : List (List UInt8)} (h : ws.length ≤ 5) (a r : Nat) : (vecA ws a r).length = ws.length := by
  cases r with
  | zero => simp [vecA]
  | succ r => exact nextTo_length h _ _
theorem sum_mem {l : List Nat} {n : Nat} (h : ∀ x ∈ l, x ≤ n) : l.sum ≤ l.length * n := by
  induction l with
  | nil => simp
  | cons a l ih =>
    have h1 := h a (List.mem_cons_self ..)
    have h2 := ih fun x hx => h x (List.mem_cons_of_mem _ hx)
    rw [List.sum_cons, List.length_cons, Nat.succ_mul]
    omega
theorem addTo_mem {acc row : List Nat} {n x : Nat} (h : x ∈ addTo acc n row) : ∃ a ∈ acc, ∃ t ∈ row, x = a + n * t := by
  unfold addTo at h
  obtain ⟨j, hj, rfl⟩ := List.mem_iff_getElem.1 h
  rw [List.length_zipWith] at hj
  refine ⟨acc[j], List.getElem_mem _, row[j], List.getElem_mem _, ?_⟩
  simp
theorem nextTo_le {ws : List (List UInt8)} (hw : ∀ w ∈ ws, w.length ≤ 12) (v : List Nat) : ∀ i, i ≤ ws.length → i ≤ v.length → ∀ x ∈ nextTo ws v i, x ≤ 12 * (v.take i).sum
  | 0, _, _, x, hx => by
    rw [nextTo_zero] at hx
    have := List.eq_of_mem_replicate hx
    omega
  | i + 1, h1, h2, x, hx => by
    rw [nextTo_succ] at hx
    obtain ⟨a, ha, t, ht, rfl⟩ := addTo_mem hx
    have h3 := nextTo_le hw v i (by omega) (by omega) a ha
    have h4 := rowN_le ht
    have h5 : (ws.getD i []).length ≤ 12 := hw _ (getD_mem (by omega))
    have e : (v.take (i + 1)).sum = (v.take i).sum + v.getD i 0 := by
      rw [take_snoc v (by omega), List.sum_append, List.sum_singleton, List.getD_eq_getElem?_getD, List.getElem?_eq_getElem (by omega)]; rfl
    rw [e]
    have h6 : v.getD i 0 * t ≤ v.getD i 0 * 12 := Nat.mul_le_mul_left _ (by omega)
    omega
/-- Are the first r numbers of letters not too great? -/
def okS (ws : List (List UInt8)) (a r : Nat) : Bool := (List.range r).all fun i => decide ((vecA ws a i).sum ≤ 1000000000000000)
def outS (ws : List (List UInt8)) (a r : Nat) : List Nat := (List.range r).map fun i => (vecA ws a i).sum
theorem okS_succ (ws : List (List UInt8)) (a r : Nat) : okS ws a (r + 1) = (okS ws a r && decide ((vecA ws a r).sum ≤ 1000000000000000)) := by simp [okS, List.range_succ]
theorem outS_succ (ws : List (List UInt8)) (a r : Nat) : outS ws a (r + 1) = outS ws a r ++ [(vecA ws a r).sum] := by simp [outS, List.range_succ]
theorem outS_length (ws : List (List UInt8)) (a r : Nat) : (outS ws a r).length = r := by simp [outS]
theorem okS_no {ws : List (List UInt8)} {a r k : Nat} (h : r < k) (hb : ¬ (vecA ws a r).sum ≤ 1000000000000000) : okS ws a k = false := by
  cases hk : okS ws a k with
  | false => rfl
  | true =>
    unfold okS at hk
    have := List.all_eq_true.1 hk r (List.mem_range.2 h)
    rw [decide_eq_true_eq] at this
    exact absurd this hb
theorem vecA_le {ws : List (List UInt8)} (hw : ∀ w ∈ ws, w.length ≤ 12) (h5 : ws.length ≤ 5) {a r : Nat} (h : okS ws a r = true) : ∀ x ∈ vecA ws a r, x ≤ 12000000000000000 := by
  intro x hx
  cases r with
  | zero =>
    rw [vecA_zero] at hx
    rcases List.mem_or_eq_of_mem_set hx with hx | rfl
    · have := List.eq_of_mem_replicate hx; omega
    · omega
  | succ r =>
    rw [okS_succ, Bool.and_eq_true, decide_eq_true_eq] at h
    rw [vecA_succ] at hx
    have := nextTo_le hw (vecA ws a r) ws.length (Nat.le_refl _) (by rw [vecA_length h5]; exact Nat.le_refl _) x hx
    rw [List.take_of_length_le (by rw [vecA_length h5]; exact Nat.le_refl _)] at this
    omega
theorem vecA_sum0 {ws : List (List UInt8)} {a : Nat} (h : a < ws.length) (h5 : ws.length ≤ 5) : (vecA ws a 0).sum = 1 := by
  rw [vecA_zero]
  have h1 : ws.length = 1 ∨ ws.length = 2 ∨ ws.length = 3 ∨ ws.length = 4 ∨ ws.length = 5 := by omega
  have h2 : a = 0 ∨ a = 1 ∨ a = 2 ∨ a = 3 ∨ a = 4 := by omega
  rcases h1 with h1 | h1 | h1 | h1 | h1 <;> rw [h1] at h ⊢ <;> rcases h2 with rfl | rfl | rfl | rfl | rfl <;> first | rfl | omega
def codeL (ws : List (List UInt8)) (a k t : Int) : Int := if isMor ws then (if (0 ≤ a ∧ a ≤ ws.length - 1) ∧ (0 ≤ k ∧ k ≤ t) then 0 else 2) else 1
def afterC (ws : List (List UInt8)) (a k : Int) : Int := if codeL ws a k 20 = 0 then (if okS ws a.toNat (k.toNat + 1) then 0 else 3) else codeL ws a k 20
def afterR (ws : List (List UInt8)) (a k : Int) : List Nat := if codeL ws a k 20 = 0 then (if okS ws a.toNat (k.toNat + 1) then outS ws a.toNat (k.toNat + 1) else []) else []
theorem codeL_zero {ws : List (List UInt8)} {a k t : Int} (h : codeL ws a k t = 0) : isMor ws = true ∧ 0 ≤ a ∧ a < ws.length ∧ 0 ≤ k ∧ k ≤ t := by
  unfold codeL at h
  split at h
  · rename_i h1
    split at h
    · rename_i h2; exact ⟨h1, by omega⟩
    · cases h
  · cases h
end Go.Proofs.Ytbefijbmgmbphaa
