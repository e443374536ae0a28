/- Plain law: products, reversed and turned words, letters. -/
import Derived.Test.YtbefijbmgmbphaaGreatC65
namespace Go.Proofs.YtbefijbmgmbphaaGreat
open Go
set_option linter.unusedSimpArgs false
set_option linter.unusedVariables false

theorem isWord_of {l : List UInt8} (h1 : l.length ≤ 60) (h2 : l.all isL = true) : isWord l = true := by
  unfold isWord
  rw [h2, Bool.and_true]
  exact decide_eq_true h1
theorem word_app {w u : List UInt8} (hw : isWord w = true) (hu : isWord u = true) (hl : (w ++ u).length ≤ 60) : isWord (w ++ u) = true :=
  isWord_of hl (by rw [List.all_append, isWord_all hw, isWord_all hu]; rfl)
theorem word_rev {w : List UInt8} (hw : isWord w = true) : isWord w.reverse = true :=
  isWord_of (by rw [List.length_reverse]; exact isWord_len hw) (by rw [List.all_reverse]; exact isWord_all hw)
theorem ltr_back {u : UInt8} (h : isL u = true) : ltr ((u.toNat : Int) - 97).toNat = u ∧ inL ((u.toNat : Int) - 97) = true := by
  have := isL_range h
  constructor
  · unfold ltr
    rw [show 97 + ((u.toNat : Int) - 97).toNat = u.toNat by omega]
    simp
  · unfold inL
    exact decide_eq_true (by omega)
theorem wol_nums {l : List UInt8} (h : isWord l = true) : wolT (nums l) = l ∧ wolC (nums l) = 0 := by
  have hall := isWord_all h
  have h1 : (nums l).all inL = true := by
    rw [List.all_eq_true] at hall ⊢
    intro x hx
    obtain ⟨u, hu, rfl⟩ := List.mem_map.1 hx
    exact (ltr_back (hall u hu)).2
  have h2 : (nums l).map (fun z => ltr z.toNat) = l := by
    unfold nums
    rw [List.map_map]
    have : l.map ((fun z : Int => ltr z.toNat) ∘ fun u : UInt8 => (u.toNat : Int) - 97) = l.map id := by
      apply List.map_congr_left
      intro u hu
      exact (ltr_back (List.all_eq_true.1 hall u hu)).1
    rw [this, List.map_id]
  have h3 : (nums l).length ≤ 60 := by rw [nums_length]; exact isWord_len h
  unfold wolT wolC
  rw [h1, decide_eq_true h3]
  exact ⟨h2, rfl⟩
theorem cntsum {l : List UInt8} (h : l.all isL = true) : (ncounts l).sum = l.length := by
  induction l with
  | nil => rfl
  | cons c l ih =>
    rw [List.all_cons, Bool.and_eq_true] at h
    have hr := isL_range h.1
    have ih := ih h.2
    have e : c.toNat = 97 ∨ c.toNat = 98 ∨ c.toNat = 99 ∨ c.toNat = 100 ∨ c.toNat = 101 := by omega
    have hx : ∀ m : List UInt8, ncounts m = [m.countP (fun u => u.toNat == 97), m.countP (fun u => u.toNat == 98), m.countP (fun u => u.toNat == 99), m.countP (fun u => u.toNat == 100), m.countP (fun u => u.toNat == 101)] := fun m => rfl
    rw [hx] at ih ⊢
    simp only [List.sum_cons, List.sum_nil, List.countP_cons, List.length_cons] at ih ⊢
    rcases e with e | e | e | e | e <;> rw [e] <;> simp <;> omega
theorem cmn_app (w u : List UInt8) : cmn (w ++ u) w = w.length := by
  have h1 := cmn_at (w ++ u) w w.length (by rw [List.take_left, List.take_length]) (by rw [List.length_append]; omega) (Nat.le_refl _)
  have h2 := (cmn_le (w ++ u) w).2
  omega
theorem cbg_app {w u : List UInt8} (h1 : isWord (w ++ u) = true) (h2 : isWord w = true) : cbgT (w ++ u) w = w ∧ twoC (w ++ u) w = 0 := by
  unfold cbgT twoC
  rw [h1, h2, cmn_app, List.take_left]
  exact ⟨rfl, rfl⟩
theorem cend_app {w u : List UInt8} (h1 : isWord (w ++ u) = true) (h2 : isWord u = true) : cendT (w ++ u) u = u ∧ twoC (w ++ u) u = 0 := by
  unfold cendT twoC cendN
  rw [h1, h2, List.reverse_append, cmn_app, List.length_reverse, List.length_append, show w.length + u.length - u.length = w.length by omega, List.drop_left]
  exact ⟨rfl, rfl⟩
theorem prod_ok {w u : List UInt8} (h : prodC w u = 0) : isWord w = true ∧ isWord u = true ∧ (w ++ u).length ≤ 60 ∧ prodT w u = w ++ u := by
  unfold prodC at h
  split at h
  · rename_i hb
    split at h
    · cases h
    · rename_i hl
      unfold prodT
      rw [if_pos hb, if_neg hl]
      rw [Bool.and_eq_true] at hb
      exact ⟨hb.1, hb.2, by omega, rfl⟩
  · cases h
theorem prod_mk {w u : List UInt8} (h1 : isWord w = true) (h2 : isWord u = true) (hl : (w ++ u).length ≤ 60) : prodT w u = w ++ u ∧ prodC w u = 0 := by
  unfold prodT prodC
  have hb : (isWord w && isWord u) = true := by rw [h1, h2]; rfl
  rw [if_pos hb, if_pos hb, if_neg (by omega), if_neg (by omega)]
  exact ⟨rfl, rfl⟩
theorem tur_ok {w : List UInt8} {k : Int} (h : turC w k = 0) : isWord w = true ∧ 0 ≤ k ∧ k ≤ w.length ∧ turC (turT w k) ((w.length : Int) - k) = 0 ∧ turT (turT w k) ((w.length : Int) - k) = w ∧ (turT w k).length = w.length := by
  unfold turC at h
  split at h
  · rename_i hb
    split at h
    · rename_i hk
      have e : turT w k = w.drop k.toNat ++ w.take k.toNat := by unfold turT; rw [if_pos hb, if_pos hk]
      have hl : (w.drop k.toNat ++ w.take k.toNat).length = w.length := by rw [List.length_append, List.length_drop, List.length_take]; omega
      have hw : isWord (w.drop k.toNat ++ w.take k.toNat) = true := by
        refine isWord_of (by rw [hl]; exact isWord_len hb) ?_
        have hall := isWord_all hb
        rw [List.all_eq_true] at hall ⊢
        intro x hx
        rcases List.mem_append.1 hx with hx | hx
        · exact hall x (List.mem_of_mem_drop hx)
        · exact hall x (List.mem_of_mem_take hx)
      refine ⟨hb, hk.1, hk.2, ?_, ?_, by rw [e, hl]⟩
      · rw [e]
        unfold turC
        rw [if_pos hw, hl, if_pos (by omega)]
      · rw [e]
        unfold turT
        rw [if_pos hw, hl, if_pos (by omega)]
        have ed : ((w.length : Int) - k).toNat = (w.drop k.toNat).length := by rw [List.length_drop]; omega
        rw [ed, List.drop_left, List.take_left, List.take_append_drop]
    · cases h
  · cases h
end Go.Proofs.YtbefijbmgmbphaaGreat
