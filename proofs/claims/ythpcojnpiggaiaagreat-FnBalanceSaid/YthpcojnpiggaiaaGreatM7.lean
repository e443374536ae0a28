/- The plain law of balances: least and greatest numbers of letters over factors do not depend on order or repeats. -/
import Derived.Test.YthpcojnpiggaiaaGreatCB
namespace Go.Proofs.YthpcojnpiggaiaaGreat
open Go
set_option linter.unusedSimpArgs false
set_option linter.unusedVariables false

theorem Sub.ovr {M N : Mem} {b : Nat} (h : Sub M N) (hb : M b = none) (B : Blk) : Sub M (N.put b B) := by
  intro i Bi hi
  have hne : i ≠ b := by rintro rfl; rw [hb] at hi; cases hi
  rw [put_ne _ _ hne]
  exact h _ _ hi
def mnF (x y : Int) : Int := if y < x then y else x
def mxF (x y : Int) : Int := if x < y then y else x
/-- Five numbers. -/
def vec (g : Nat → Int) : List Int := [g 0, g 1, g 2, g 3, g 4]
theorem vec_length (g : Nat → Int) : (vec g).length = 5 := rfl
theorem counts_vec (l : List UInt8) : counts l = vec (cnt l) := rfl
theorem vec_get (g : Nat → Int) {i : Nat} (h : i < 5) : (vec g)[i]? = some (g i) := by
  match i, h with
  | 0, _ => rfl
  | 1, _ => rfl
  | 2, _ => rfl
  | 3, _ => rfl
  | 4, _ => rfl
def stpB (f : Int → Int → Int) (g : Nat → Int) (u : List UInt8) (i : Nat) : Nat → Int := fun k => if k < i then f (g k) (cnt u k) else g k
theorem stpB_zero (f : Int → Int → Int) (g : Nat → Int) (u : List UInt8) : stpB f g u 0 = g := by
  funext k
  simp [stpB]
theorem stpB_at (f : Int → Int → Int) (g : Nat → Int) (u : List UInt8) (i : Nat) : stpB f g u i i = g i := by simp [stpB]
theorem vec_set (f : Int → Int → Int) (g : Nat → Int) (u : List UInt8) {i : Nat} (h : i < 5) : (vec (stpB f g u i)).set i (f (g i) (cnt u i)) = vec (stpB f g u (i + 1)) := by
  match i, h with
  | 0, _ => rfl
  | 1, _ => rfl
  | 2, _ => rfl
  | 3, _ => rfl
  | 4, _ => rfl
def foldG (f : Int → Int → Int) (g : Nat → Int) (L : List (List UInt8)) : Nat → Int := fun k => L.foldl (fun a u => f a (cnt u k)) (g k)
theorem vec_five (f : Int → Int → Int) (g : Nat → Int) (L : List (List UInt8)) (u : List UInt8) : vec (stpB f (foldG f g L) u 5) = vec (foldG f g (L ++ [u])) := by
  unfold foldG
  simp only [List.foldl_append, List.foldl_cons, List.foldl_nil]
  rfl
def spr (best : Int) (lo hi : Nat → Int) : Nat → Int
  | 0 => best
  | i + 1 => mxF (spr best lo hi i) (hi i - lo i)
theorem cnt_word {u : List UInt8} (h : u.length ≤ 60) (k : Nat) : 0 ≤ cnt u k ∧ cnt u k ≤ 60 := by
  have := cnt_le u k
  omega
theorem stpB_mn {g : Nat → Int} {u : List UInt8} (i : Nat) (hg : ∀ k, 0 ≤ g k ∧ g k ≤ 60) (hu : u.length ≤ 60) (k : Nat) : 0 ≤ stpB mnF g u i k ∧ stpB mnF g u i k ≤ 60 := by
  have h1 := hg k
  have h2 := cnt_word hu k
  unfold stpB mnF
  split <;> (try split) <;> omega
theorem stpB_mx {g : Nat → Int} {u : List UInt8} (i : Nat) (hg : ∀ k, 0 ≤ g k ∧ g k ≤ 60) (hu : u.length ≤ 60) (k : Nat) : 0 ≤ stpB mxF g u i k ∧ stpB mxF g u i k ≤ 60 := by
  have h1 := hg k
  have h2 := cnt_word hu k
  unfold stpB mxF
  split <;> (try split) <;> omega
theorem foldG_in {f : Int → Int → Int} (hf : ∀ a b, 0 ≤ a ∧ a ≤ 60 → 0 ≤ b ∧ b ≤ 60 → 0 ≤ f a b ∧ f a b ≤ 60) {g : Nat → Int} {L : List (List UInt8)} (hg : ∀ k, 0 ≤ g k ∧ g k ≤ 60) (hL : ∀ u ∈ L, u.length ≤ 60) (k : Nat) : 0 ≤ foldG f g L k ∧ foldG f g L k ≤ 60 := by
  unfold foldG
  have : ∀ (L : List (List UInt8)) (a : Int), (∀ u ∈ L, u.length ≤ 60) → 0 ≤ a ∧ a ≤ 60 → 0 ≤ L.foldl (fun a u => f a (cnt u k)) a ∧ L.foldl (fun a u => f a (cnt u k)) a ≤ 60 := by
    intro L
    induction L with
    | nil => intro a _ h; exact h
    | cons u r ih => intro a hL h; exact ih _ (fun x hx => hL x (List.mem_cons_of_mem _ hx)) (hf _ _ h (cnt_word (hL u List.mem_cons_self) k))
  exact this L _ hL (hg k)
theorem mnF_in (a b : Int) (ha : 0 ≤ a ∧ a ≤ 60) (hb : 0 ≤ b ∧ b ≤ 60) : 0 ≤ mnF a b ∧ mnF a b ≤ 60 := by unfold mnF; split <;> omega
theorem mxF_in (a b : Int) (ha : 0 ≤ a ∧ a ≤ 60) (hb : 0 ≤ b ∧ b ≤ 60) : 0 ≤ mxF a b ∧ mxF a b ≤ 60 := by unfold mxF; split <;> omega
theorem spr_in {best : Int} {lo hi : Nat → Int} (hb : 0 ≤ best ∧ best ≤ 60) (hlo : ∀ k, 0 ≤ lo k ∧ lo k ≤ 60) (hhi : ∀ k, 0 ≤ hi k ∧ hi k ≤ 60) : ∀ i, 0 ≤ spr best lo hi i ∧ spr best lo hi i ≤ 60
  | 0 => hb
  | i + 1 => by
    have h0 := spr_in hb hlo hhi i
    have h1 := hlo i
    have h2 := hhi i
    unfold spr mxF
    split <;> omega
/-- The factors of length m behind the first one. -/
def segsF (w : List UInt8) (m i : Nat) : List (List UInt8) := (List.range i).map fun t => seg w (t + 1) m
theorem segsF_succ (w : List UInt8) (m i : Nat) : segsF w m (i + 1) = segsF w m i ++ [seg w (i + 1) m] := by simp [segsF, List.range_succ]
def segsA (w : List UInt8) (m i : Nat) : List (List UInt8) := (List.range i).map fun t => seg w t m
theorem segsA_succ (w : List UInt8) (m i : Nat) : segsA w m (i + 1) = segsA w m i ++ [seg w i m] := by simp [segsA, List.range_succ]
theorem segsA_length (w : List UInt8) (m i : Nat) : (segsA w m i).length = i := by simp [segsA]
def loW (w : List UInt8) (m : Nat) : Nat → Int := foldG mnF (cnt (w.take m)) (segsF w m (w.length - m))
def hiW (w : List UInt8) (m : Nat) : Nat → Int := foldG mxF (cnt (w.take m)) (segsF w m (w.length - m))
def balM (w : List UInt8) : Nat → Int
  | 0 => 0
  | m + 1 => spr (balM w m) (loW w (m + 1)) (hiW w (m + 1)) 5
theorem segsF_len {w : List UInt8} {m i : Nat} (hw : w.length ≤ 60) : ∀ u ∈ segsF w m i, u.length ≤ 60 := by
  intro u hu
  obtain ⟨t, _, rfl⟩ := List.mem_map.1 hu
  unfold seg
  rw [List.length_drop, List.length_take]
  omega
theorem loW_in {w : List UInt8} (hw : w.length ≤ 60) (m k : Nat) : 0 ≤ loW w m k ∧ loW w m k ≤ 60 := foldG_in mnF_in (fun k => cnt_word (by rw [List.length_take]; omega) k) (segsF_len hw) k
theorem hiW_in {w : List UInt8} (hw : w.length ≤ 60) (m k : Nat) : 0 ≤ hiW w m k ∧ hiW w m k ≤ 60 := foldG_in mxF_in (fun k => cnt_word (by rw [List.length_take]; omega) k) (segsF_len hw) k
theorem balM_in {w : List UInt8} (hw : w.length ≤ 60) : ∀ m, 0 ≤ balM w m ∧ balM w m ≤ 60
  | 0 => by unfold balM; omega
  | m + 1 => spr_in (balM_in hw m) (loW_in hw _) (hiW_in hw _) 5
theorem fold_mn (k : Nat) : ∀ (L : List (List UInt8)) (b : Int), L.foldl (fun a u => mnF a (cnt u k)) b ≤ b ∧ (∀ u ∈ L, L.foldl (fun a u => mnF a (cnt u k)) b ≤ cnt u k) ∧ (L.foldl (fun a u => mnF a (cnt u k)) b = b ∨ ∃ u ∈ L, L.foldl (fun a u => mnF a (cnt u k)) b = cnt u k)
  | [], b => ⟨Int.le_refl b, by simp, .inl rfl⟩
  | u :: r, b => by
    obtain ⟨h1, h2, h3⟩ := fold_mn k r (mnF b (cnt u k))
    rw [List.foldl_cons]
    have hm : mnF b (cnt u k) ≤ b ∧ mnF b (cnt u k) ≤ cnt u k ∧ (mnF b (cnt u k) = b ∨ mnF b (cnt u k) = cnt u k) := by unfold mnF; split <;> simp <;> omega
    refine ⟨by omega, ?_, ?_⟩
    · intro x hx
      rcases List.mem_cons.1 hx with rfl | hx
      · omega
      · exact h2 x hx
    · rcases h3 with h3 | ⟨x, hx, h3⟩
      · rcases hm.2.2 with e | e
        · exact .inl (h3.trans e)
        · exact .inr ⟨u, List.mem_cons_self, h3.trans e⟩
      · exact .inr ⟨x, List.mem_cons_of_mem _ hx, h3⟩
theorem fold_mx (k : Nat) : ∀ (L : List (List UInt8)) (b : Int), b ≤ L.foldl (fun a u => mxF a (cnt u k)) b ∧ (∀ u ∈ L, cnt u k ≤ L.foldl (fun a u => mxF a (cnt u k)) b) ∧ (L.foldl (fun a u => mxF a (cnt u k)) b = b ∨ ∃ u ∈ L, L.foldl (fun a u => mxF a (cnt u k)) b = cnt u k)
  | [], b => ⟨Int.le_refl b, by simp, .inl rfl⟩
  | u :: r, b => by
    obtain ⟨h1, h2, h3⟩ := fold_mx k r (mxF b (cnt u k))
    rw [List.foldl_cons]
    have hm : b ≤ mxF b (cnt u k) ∧ cnt u k ≤ mxF b (cnt u k) ∧ (mxF b (cnt u k) = b ∨ mxF b (cnt u k) = cnt u k) := by unfold mxF; split <;> simp <;> omega
    refine ⟨by omega, ?_, ?_⟩
    · intro x hx
      rcases List.mem_cons.1 hx with rfl | hx
      · omega
      · exact h2 x hx
    · rcases h3 with h3 | ⟨x, hx, h3⟩
      · rcases hm.2.2 with e | e
        · exact .inl (h3.trans e)
        · exact .inr ⟨u, List.mem_cons_self, h3.trans e⟩
      · exact .inr ⟨x, List.mem_cons_of_mem _ hx, h3⟩
theorem fold_mn_same {b : List UInt8} {L L' : List (List UInt8)} (h1 : ∀ u ∈ L, u ∈ L' ∨ u = b) (h2 : ∀ u ∈ L', u ∈ L) : foldG mnF (cnt b) L = foldG mnF (cnt b) L' := by
  funext k
  unfold foldG
  obtain ⟨a1, a2, a3⟩ := fold_mn k L (cnt b k)
  obtain ⟨b1, b2, b3⟩ := fold_mn k L' (cnt b k)
  refine Int.le_antisymm ?_ ?_
  · rcases b3 with e | ⟨u, hu, e⟩
    · rw [e]; exact a1
    · rw [e]; exact a2 u (h2 u hu)
  · rcases a3 with e | ⟨u, hu, e⟩
    · rw [e]; exact b1
    · rw [e]
      rcases h1 u hu with h | rfl
      · exact b2 u h
      · exact b1
theorem fold_mx_same {b : List UInt8} {L L' : List (List UInt8)} (h1 : ∀ u ∈ L, u ∈ L' ∨ u = b) (h2 : ∀ u ∈ L', u ∈ L) : foldG mxF (cnt b) L = foldG mxF (cnt b) L' := by
  funext k
  unfold foldG
  obtain ⟨a1, a2, a3⟩ := fold_mx k L (cnt b k)
  obtain ⟨b1, b2, b3⟩ := fold_mx k L' (cnt b k)
  refine Int.le_antisymm ?_ ?_
  · rcases a3 with e | ⟨u, hu, e⟩
    · rw [e]; exact b1
    · rw [e]
      rcases h1 u hu with h | rfl
      · exact b2 u h
      · exact b1
  · rcases b3 with e | ⟨u, hu, e⟩
    · rw [e]; exact a1
    · rw [e]; exact a2 u (h2 u hu)
/-- The same factors, in another list. -/
theorem bal_same {w : List UInt8} {m : Nat} {L : List (List UInt8)} (hm : m ≤ w.length) (hL : ∀ u, u ∈ L ↔ u ∈ segsA w m (w.length - m + 1)) : foldG mnF (cnt (w.take m)) L = loW w m ∧ foldG mxF (cnt (w.take m)) L = hiW w m := by
  have h1 : ∀ u ∈ L, u ∈ segsF w m (w.length - m) ∨ u = w.take m := by
    intro u hu
    obtain ⟨t, ht, rfl⟩ := List.mem_map.1 ((hL u).1 hu)
    have ht := List.mem_range.1 ht
    cases t with
    | zero => exact .inr (seg_zero w m)
    | succ t => exact .inl (List.mem_map.2 ⟨t, List.mem_range.2 (by omega), rfl⟩)
  have h2 : ∀ u ∈ segsF w m (w.length - m), u ∈ L := by
    intro u hu
    obtain ⟨t, ht, rfl⟩ := List.mem_map.1 hu
    have ht := List.mem_range.1 ht
    exact (hL _).2 (List.mem_map.2 ⟨t + 1, List.mem_range.2 (by omega), rfl⟩)
  exact ⟨fold_mn_same h1 h2, fold_mx_same h1 h2⟩
/-- Words without letters. -/
theorem bal_zero (w : List UInt8) : spr 0 (loW w 0) (hiW w 0) 5 = 0 := by
  have hc : ∀ k, cnt [] k = 0 := fun k => rfl
  have hs : ∀ i, ∀ u ∈ segsF w 0 i, u = [] := by
    intro i u hu
    obtain ⟨t, _, rfl⟩ := List.mem_map.1 hu
    unfold seg
    rw [Nat.add_zero]
    exact List.drop_eq_nil_of_le (by rw [List.length_take]; omega)
  have h1 : loW w 0 = fun _ => 0 := by
    funext k
    obtain ⟨_, _, h | ⟨u, hu, h⟩⟩ := fold_mn k (segsF w 0 (w.length - 0)) (cnt (w.take 0) k)
    · exact h
    · rw [hs _ u hu] at h; exact h
  have h2 : hiW w 0 = fun _ => 0 := by
    funext k
    obtain ⟨_, _, h | ⟨u, hu, h⟩⟩ := fold_mx k (segsF w 0 (w.length - 0)) (cnt (w.take 0) k)
    · exact h
    · rw [hs _ u hu] at h; exact h
  rw [h1, h2]
  rfl
def balB (w : List UInt8) : Int := if isWord w then balM w w.length else 0
end Go.Proofs.YthpcojnpiggaiaaGreat
