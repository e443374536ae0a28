/- Contracts: words with names. -/
import Derived.Test.YthpcojnpiggaiaaGreatCA
namespace Go.Proofs.YthpcojnpiggaiaaGreat
open Go
set_option linter.unusedSimpArgs false
set_option linter.unusedVariables false

/-- The images of the morphism behind a name. -/
def named (l : List UInt8) : Option (List (List UInt8)) :=
  if l = [102, 105, 98, 111, 110, 97, 99, 99, 105] then some [[97, 98], [97]]
  else if l = [116, 104, 117, 101] then some [[97, 98], [98, 97]]
  else if l = [100, 111, 117, 98, 108, 105, 110, 103] then some [[97, 98], [97, 97]]
  else if l = [116, 114, 105, 112, 108, 101] then some [[97, 98, 99], [97, 99], [98]]
  else none
def imgOf (ws : List (List UInt8)) (l : List UInt8) : List UInt8 := l.flatMap fun u => ws.getD (u.toNat - 97) []
def growW (ws : List (List UInt8)) (m : Nat) : Nat → List UInt8 → List UInt8
  | 0, l => l
  | f + 1, l => if l.length < m then growW ws m f (imgOf ws l) else l
structure Nice (ws : List (List UInt8)) : Prop where
  len : ∀ w ∈ ws, 1 ≤ w.length ∧ w.length ≤ 3
  ltr : ∀ w ∈ ws, ∀ u ∈ w, 97 ≤ u.toNat ∧ u.toNat - 97 < ws.length
  head : ∃ b r rest, ws = (97 :: b :: r) :: rest
  few : ws.length ≤ 3
theorem nice_named {l : List UInt8} {ws : List (List UInt8)} (h : named l = some ws) : Nice ws := by
  unfold named at h
  split at h
  · injection h with h; subst h; exact ⟨by decide, by decide, ⟨_, _, _, rfl⟩, by decide⟩
  · split at h
    · injection h with h; subst h; exact ⟨by decide, by decide, ⟨_, _, _, rfl⟩, by decide⟩
    · split at h
      · injection h with h; subst h; exact ⟨by decide, by decide, ⟨_, _, _, rfl⟩, by decide⟩
      · split at h
        · injection h with h; subst h; exact ⟨by decide, by decide, ⟨_, _, _, rfl⟩, by decide⟩
        · cases h
/-- A word of the letters that have images, beginning with a. -/
structure Grown (ws : List (List UInt8)) (l : List UInt8) : Prop where
  ltr : ∀ u ∈ l, 97 ≤ u.toNat ∧ u.toNat - 97 < ws.length
  head : ∃ r, l = 97 :: r
theorem imgOf_nil (ws : List (List UInt8)) : imgOf ws [] = [] := rfl
theorem imgOf_cons (ws : List (List UInt8)) (u : UInt8) (l : List UInt8) : imgOf ws (u :: l) = ws.getD (u.toNat - 97) [] ++ imgOf ws l := by simp [imgOf]
theorem imgOf_snoc (ws : List (List UInt8)) (u : UInt8) (l : List UInt8) : imgOf ws (l ++ [u]) = imgOf ws l ++ ws.getD (u.toNat - 97) [] := by simp [imgOf]
theorem getD_mem {ws : List (List UInt8)} {k : Nat} (h : k < ws.length) : ws.getD k [] ∈ ws := by
  rw [List.getD_eq_getElem?_getD, List.getElem?_eq_getElem h]; exact List.getElem_mem h
theorem imgOf_len {ws : List (List UInt8)} (hn : Nice ws) : ∀ (l : List UInt8), (∀ u ∈ l, 97 ≤ u.toNat ∧ u.toNat - 97 < ws.length) → l.length ≤ (imgOf ws l).length ∧ (imgOf ws l).length ≤ 3 * l.length
  | [], _ => ⟨Nat.le_refl _, Nat.le_refl _⟩
  | u :: l, h => by
    have ih := imgOf_len hn l fun v hv => h v (List.mem_cons_of_mem _ hv)
    have h1 := hn.len _ (getD_mem (h u (List.mem_cons_self ..)).2)
    rw [imgOf_cons, List.length_append, List.length_cons]
    omega
theorem Grown.img {ws : List (List UInt8)} (hn : Nice ws) {l : List UInt8} (h : Grown ws l) : Grown ws (imgOf ws l) ∧ l.length < (imgOf ws l).length := by
  obtain ⟨r, rfl⟩ := h.head
  obtain ⟨b, r', rest, hw⟩ := hn.head
  have hr : ∀ u ∈ r, 97 ≤ u.toNat ∧ u.toNat - 97 < ws.length := fun u hu => h.ltr u (List.mem_cons_of_mem _ hu)
  have hl := imgOf_len hn r hr
  have h0 : ws.getD ((97 : UInt8).toNat - 97) [] = 97 :: b :: r' := by rw [hw]; rfl
  refine ⟨⟨?_, ?_⟩, ?_⟩
  · intro u hu
    unfold imgOf at hu
    obtain ⟨v, hv, hu⟩ := List.mem_flatMap.1 hu
    exact hn.ltr _ (getD_mem (h.ltr v hv).2) u hu
  · rw [imgOf_cons, h0]; exact ⟨_, rfl⟩
  · rw [imgOf_cons, h0]; simp only [List.length_append, List.length_cons]; omega
theorem growW_done {ws : List (List UInt8)} {m : Nat} {l : List UInt8} (h : m ≤ l.length) : ∀ f, growW ws m f l = l
  | 0 => rfl
  | f + 1 => by unfold growW; rw [if_neg (by omega)]
theorem growW_step {ws : List (List UInt8)} {m f : Nat} {l : List UInt8} (h : l.length < m) (hf : m ≤ l.length + f) : growW ws m f l = growW ws m (f - 1) (imgOf ws l) := by
  match f, hf with
  | 0, hf => omega
  | f + 1, hf => conv => lhs; unfold growW
                 rw [if_pos h]; rfl
def namedT (l : List UInt8) (m : Int) : List UInt8 :=
  if 0 ≤ m ∧ m ≤ 60 then (match named l with | some ws => (growW ws m.toNat 60 [97]).take m.toNat | none => []) else []
def namedC (l : List UInt8) (m : Int) : Int := if 0 ≤ m ∧ m ≤ 60 then (match named l with | some ws => 0 | none => 4) else 2
theorem str_nil : (Value.string (ByteArray.mk (List.toArray []))) = str [] := rfl
theorem beq_of {a b : List UInt8} (h : a = b) : (a == b) = true := by rw [h]; exact beq_self_eq_true _
theorem beq_no {a b : List UInt8} (h : ¬ a = b) : (a == b) = false := beq_eq_false_iff_ne.2 h
theorem l01Named_1 (l : List UInt8) (hl : l = [102, 105, 98, 111, 110, 97, 99, 99, 105]) (ws : List (List UInt8)) (hws : ws = [[97, 98], [97]]) (m : Nat) (M : Mem) (R : Value → Mem → Prop) (hm : m ≤ 60)
    (h : R (.tuple #[str ((growW ws m 60 [97]).take m), .bool true]) M) : Does Tryz.prog 106 [str l, .int .i64 m] M R := by
  have b1 : (l == [102, 105, 98, 111, 110, 97, 99, 99, 105]) = decide (1 = 1) := by rw [hl]; decide
  have b2 : (l == [116, 104, 117, 101]) = decide (1 = 2) := by rw [hl]; decide
  have b3 : (l == [100, 111, 117, 98, 108, 105, 110, 103]) = decide (1 = 3) := by rw [hl]; decide
  have b4 : (l == [116, 114, 105, 112, 108, 101]) = decide (1 = 4) := by rw [hl]; decide
  have hll : l.length ≤ 1099511627776 := by rw [hl]; decide
  have nice : Nice ws := nice_named (l := l) (by rw [hl, hws]; decide)
  have hfew := nice.few
  have hlen : ws.length = ([[97, 98], [97]] : List (List UInt8)).length := by rw [hws]
  clear hl
  refine does_fn tab_ok Tryz.func106 rfl (by kernel_rfl) (by kernel_rfl) Tryz.ntmps106 Tryz.results106 rfl ?_
  simp (disch := omega)
  intro b0 hb0
  simp (disch := omega) [b1, b2, b3, b4]
  intro b hb
  have hV : ([str [97, 98], str [97]] : List Value) = strs ws := by rw [hws]; rfl
  have hs0 : Sub M (M.put b0 (.cells true [] 0)) := (Sub.refl _).put hb0 _
  rw [hV]
  clear hV hws
  simp (disch := omega)
  refine loop_to tab_ok [7, 8, 9, 24, 25, 26, 27, 28, 29, 30, 31, 32, 33, 34, 35, 36, 37, 38, 39, 40, 41, 42] (fun x : List UInt8 × Nat => [(7, str x.1)]) (fun x M' => M' = (M.put b0 (.cells true [] 0)).put b (.cells true (strs ws) ws.length) ∧ Grown ws x.1 ∧ x.1.length ≤ 180 ∧ m ≤ x.1.length + x.2 ∧ growW ws m x.2 x.1 = growW ws m 60 [97]) (fun x => m - x.1.length) ([97], 60) (by kernel_rfl) (by simp (disch := omega)) ⟨by rw [hlen], ⟨by obtain ⟨p, q, r, hw⟩ := nice.head; intro u hu; rw [List.mem_singleton.1 hu, hw]; exact ⟨by decide, by simp⟩, ⟨[], rfl⟩⟩, by decide, by simp only [List.length_singleton]; omega, rfl⟩ ?_
  rintro ⟨out, f⟩ M' g ⟨rfl, hg, hl1, hf, he⟩
  simp only at hg hl1 hf he
  by_cases hlt : (out.length : Int) < m
  · obtain ⟨hg', hl2⟩ := hg.img nice
    have hl3 := imgOf_len nice out hg.ltr
    simp (disch := omega) [hlt]
    refine loop_to tab_ok [8, 9, 28, 29, 30, 31, 32, 33, 34, 35, 36, 37, 38, 39, 40, 41] (fun i : Nat => [(9, .int .i64 i), (8, str (imgOf ws (out.take i)))]) (fun i M1 => i ≤ out.length ∧ M1 = (M.put b0 (.cells true [] 0)).put b (.cells true (strs ws) ws.length)) (fun i => out.length - i) 0 (by kernel_rfl) (by simp (disch := omega) [imgOf_nil]) ⟨by omega, rfl⟩ ?_
    rintro i M1 g' ⟨hi, rfl⟩
    by_cases hil : i < out.length
    · have hx : out[i]? = some out[i] := List.getElem?_eq_getElem hil
      have hu := out[i].toNat_lt
      have hL := hg.ltr _ (List.getElem_mem hil)
      have hk : ((out[i].toNat : Int) - 97).toNat = out[i].toNat - 97 := by omega
      obtain ⟨w, hw, hwl, hsn⟩ : ∃ w, ws[out[i].toNat - 97]'hL.2 = w ∧ w.length ≤ 3 ∧ imgOf ws (out.take (i + 1)) = imgOf ws (out.take i) ++ w :=
        ⟨_, rfl, (nice.len _ (List.getElem_mem hL.2)).2, by rw [take_snoc out hil, imgOf_snoc, List.getD_eq_getElem?_getD, List.getElem?_eq_getElem hL.2]; rfl⟩
      have hil2 := imgOf_len nice (out.take i) fun u hu => hg.ltr u (List.mem_of_mem_take hu)
      have hil3 : (out.take i).length ≤ out.length := by rw [List.length_take]; omega
      have hL2 : (out[i].toNat : Int) - 97 < ([[97, 98], [97]] : List (List UInt8)).length := by rw [← hlen]; omega
      simp (disch := omega)
      refine l01At_does out i _ _ _ (by omega) hx ?_
      simp only [List.length_cons, List.length_nil] at hL2
      simp (disch := omega) [hk, hw]
      refine Rnd.mk' (i + 1) (by omega) (by (repeat (first | exact km | refine kp rfl ?_ | refine km' rfl ?_))) (by simp (disch := omega) [hsn]) ⟨by omega, rfl⟩
    · have hi' : i = out.length := by omega
      subst hi'
      simp (disch := omega)
      refine Rnd.mk' (imgOf ws out, f - 1) (by simp only; omega) (by (repeat (first | exact km | refine kp rfl ?_ | refine km' rfl ?_))) (by simp (disch := omega)) ⟨rfl, hg', by simp only; omega, by simp only; omega, ?_⟩
      simp only
      rw [← growW_step (by omega) hf]; exact he
  · have hmo : m ≤ out.length := by omega
    rw [growW_done hmo] at he
    rw [← he] at h
    simp (disch := omega) [hlt]
    exact ret_sub (hs0.putN hb _) h
theorem l01Named_2 (l : List UInt8) (hl : l = [116, 104, 117, 101]) (ws : List (List UInt8)) (hws : ws = [[97, 98], [98, 97]]) (m : Nat) (M : Mem) (R : Value → Mem → Prop) (hm : m ≤ 60)
    (h : R (.tuple #[str ((growW ws m 60 [97]).take m), .bool true]) M) : Does Tryz.prog 106 [str l, .int .i64 m] M R := by
  have b1 : (l == [102, 105, 98, 111, 110, 97, 99, 99, 105]) = decide (2 = 1) := by rw [hl]; decide
  have b2 : (l == [116, 104, 117, 101]) = decide (2 = 2) := by rw [hl]; decide
  have b3 : (l == [100, 111, 117, 98, 108, 105, 110, 103]) = decide (2 = 3) := by rw [hl]; decide
  have b4 : (l == [116, 114, 105, 112, 108, 101]) = decide (2 = 4) := by rw [hl]; decide
  have hll : l.length ≤ 1099511627776 := by rw [hl]; decide
  have nice : Nice ws := nice_named (l := l) (by rw [hl, hws]; decide)
  have hfew := nice.few
  have hlen : ws.length = ([[97, 98], [98, 97]] : List (List UInt8)).length := by rw [hws]
  clear hl
  refine does_fn tab_ok Tryz.func106 rfl (by kernel_rfl) (by kernel_rfl) Tryz.ntmps106 Tryz.results106 rfl ?_
  simp (disch := omega)
  intro b0 hb0
  simp (disch := omega) [b1, b2, b3, b4]
  intro b hb
  have hV : ([str [97, 98], str [98, 97]] : List Value) = strs ws := by rw [hws]; rfl
  have hs0 : Sub M (M.put b0 (.cells true [] 0)) := (Sub.refl _).put hb0 _
  rw [hV]
  clear hV hws
  simp (disch := omega)
  refine loop_to tab_ok [7, 8, 9, 24, 25, 26, 27, 28, 29, 30, 31, 32, 33, 34, 35, 36, 37, 38, 39, 40, 41, 42] (fun x : List UInt8 × Nat => [(7, str x.1)]) (fun x M' => M' = (M.put b0 (.cells true [] 0)).put b (.cells true (strs ws) ws.length) ∧ Grown ws x.1 ∧ x.1.length ≤ 180 ∧ m ≤ x.1.length + x.2 ∧ growW ws m x.2 x.1 = growW ws m 60 [97]) (fun x => m - x.1.length) ([97], 60) (by kernel_rfl) (by simp (disch := omega)) ⟨by rw [hlen], ⟨by obtain ⟨p, q, r, hw⟩ := nice.head; intro u hu; rw [List.mem_singleton.1 hu, hw]; exact ⟨by decide, by simp⟩, ⟨[], rfl⟩⟩, by decide, by simp only [List.length_singleton]; omega, rfl⟩ ?_
  rintro ⟨out, f⟩ M' g ⟨rfl, hg, hl1, hf, he⟩
  simp only at hg hl1 hf he
  by_cases hlt : (out.length : Int) < m
  · obtain ⟨hg', hl2⟩ := hg.img nice
    have hl3 := imgOf_len nice out hg.ltr
    simp (disch := omega) [hlt]
    refine loop_to tab_ok [8, 9, 28, 29, 30, 31, 32, 33, 34, 35, 36, 37, 38, 39, 40, 41] (fun i : Nat => [(9, .int .i64 i), (8, str (imgOf ws (out.take i)))]) (fun i M1 => i ≤ out.length ∧ M1 = (M.put b0 (.cells true [] 0)).put b (.cells true (strs ws) ws.length)) (fun i => out.length - i) 0 (by kernel_rfl) (by simp (disch := omega) [imgOf_nil]) ⟨by omega, rfl⟩ ?_
    rintro i M1 g' ⟨hi, rfl⟩
    by_cases hil : i < out.length
    · have hx : out[i]? = some out[i] := List.getElem?_eq_getElem hil
      have hu := out[i].toNat_lt
      have hL := hg.ltr _ (List.getElem_mem hil)
      have hk : ((out[i].toNat : Int) - 97).toNat = out[i].toNat - 97 := by omega
      obtain ⟨w, hw, hwl, hsn⟩ : ∃ w, ws[out[i].toNat - 97]'hL.2 = w ∧ w.length ≤ 3 ∧ imgOf ws (out.take (i + 1)) = imgOf ws (out.take i) ++ w :=
        ⟨_, rfl, (nice.len _ (List.getElem_mem hL.2)).2, by rw [take_snoc out hil, imgOf_snoc, List.getD_eq_getElem?_getD, List.getElem?_eq_getElem hL.2]; rfl⟩
      have hil2 := imgOf_len nice (out.take i) fun u hu => hg.ltr u (List.mem_of_mem_take hu)
      have hil3 : (out.take i).length ≤ out.length := by rw [List.length_take]; omega
      have hL2 : (out[i].toNat : Int) - 97 < ([[97, 98], [98, 97]] : List (List UInt8)).length := by rw [← hlen]; omega
      simp (disch := omega)
      refine l01At_does out i _ _ _ (by omega) hx ?_
      simp only [List.length_cons, List.length_nil] at hL2
      simp (disch := omega) [hk, hw]
      refine Rnd.mk' (i + 1) (by omega) (by (repeat (first | exact km | refine kp rfl ?_ | refine km' rfl ?_))) (by simp (disch := omega) [hsn]) ⟨by omega, rfl⟩
    · have hi' : i = out.length := by omega
      subst hi'
      simp (disch := omega)
      refine Rnd.mk' (imgOf ws out, f - 1) (by simp only; omega) (by (repeat (first | exact km | refine kp rfl ?_ | refine km' rfl ?_))) (by simp (disch := omega)) ⟨rfl, hg', by simp only; omega, by simp only; omega, ?_⟩
      simp only
      rw [← growW_step (by omega) hf]; exact he
  · have hmo : m ≤ out.length := by omega
    rw [growW_done hmo] at he
    rw [← he] at h
    simp (disch := omega) [hlt]
    exact ret_sub (hs0.putN hb _) h
theorem l01Named_3 (l : List UInt8) (hl : l = [100, 111, 117, 98, 108, 105, 110, 103]) (ws : List (List UInt8)) (hws : ws = [[97, 98], [97, 97]]) (m : Nat) (M : Mem) (R : Value → Mem → Prop) (hm : m ≤ 60)
    (h : R (.tuple #[str ((growW ws m 60 [97]).take m), .bool true]) M) : Does Tryz.prog 106 [str l, .int .i64 m] M R := by
  have b1 : (l == [102, 105, 98, 111, 110, 97, 99, 99, 105]) = decide (3 = 1) := by rw [hl]; decide
  have b2 : (l == [116, 104, 117, 101]) = decide (3 = 2) := by rw [hl]; decide
  have b3 : (l == [100, 111, 117, 98, 108, 105, 110, 103]) = decide (3 = 3) := by rw [hl]; decide
  have b4 : (l == [116, 114, 105, 112, 108, 101]) = decide (3 = 4) := by rw [hl]; decide
  have hll : l.length ≤ 1099511627776 := by rw [hl]; decide
  have nice : Nice ws := nice_named (l := l) (by rw [hl, hws]; decide)
  have hfew := nice.few
  have hlen : ws.length = ([[97, 98], [97, 97]] : List (List UInt8)).length := by rw [hws]
  clear hl
  refine does_fn tab_ok Tryz.func106 rfl (by kernel_rfl) (by kernel_rfl) Tryz.ntmps106 Tryz.results106 rfl ?_
  simp (disch := omega)
  intro b0 hb0
  simp (disch := omega) [b1, b2, b3, b4]
  intro b hb
  have hV : ([str [97, 98], str [97, 97]] : List Value) = strs ws := by rw [hws]; rfl
  have hs0 : Sub M (M.put b0 (.cells true [] 0)) := (Sub.refl _).put hb0 _
  rw [hV]
  clear hV hws
  simp (disch := omega)
  refine loop_to tab_ok [7, 8, 9, 24, 25, 26, 27, 28, 29, 30, 31, 32, 33, 34, 35, 36, 37, 38, 39, 40, 41, 42] (fun x : List UInt8 × Nat => [(7, str x.1)]) (fun x M' => M' = (M.put b0 (.cells true [] 0)).put b (.cells true (strs ws) ws.length) ∧ Grown ws x.1 ∧ x.1.length ≤ 180 ∧ m ≤ x.1.length + x.2 ∧ growW ws m x.2 x.1 = growW ws m 60 [97]) (fun x => m - x.1.length) ([97], 60) (by kernel_rfl) (by simp (disch := omega)) ⟨by rw [hlen], ⟨by obtain ⟨p, q, r, hw⟩ := nice.head; intro u hu; rw [List.mem_singleton.1 hu, hw]; exact ⟨by decide, by simp⟩, ⟨[], rfl⟩⟩, by decide, by simp only [List.length_singleton]; omega, rfl⟩ ?_
  rintro ⟨out, f⟩ M' g ⟨rfl, hg, hl1, hf, he⟩
  simp only at hg hl1 hf he
  by_cases hlt : (out.length : Int) < m
  · obtain ⟨hg', hl2⟩ := hg.img nice
    have hl3 := imgOf_len nice out hg.ltr
    simp (disch := omega) [hlt]
    refine loop_to tab_ok [8, 9, 28, 29, 30, 31, 32, 33, 34, 35, 36, 37, 38, 39, 40, 41] (fun i : Nat => [(9, .int .i64 i), (8, str (imgOf ws (out.take i)))]) (fun i M1 => i ≤ out.length ∧ M1 = (M.put b0 (.cells true [] 0)).put b (.cells true (strs ws) ws.length)) (fun i => out.length - i) 0 (by kernel_rfl) (by simp (disch := omega) [imgOf_nil]) ⟨by omega, rfl⟩ ?_
    rintro i M1 g' ⟨hi, rfl⟩
    by_cases hil : i < out.length
    · have hx : out[i]? = some out[i] := List.getElem?_eq_getElem hil
      have hu := out[i].toNat_lt
      have hL := hg.ltr _ (List.getElem_mem hil)
      have hk : ((out[i].toNat : Int) - 97).toNat = out[i].toNat - 97 := by omega
      obtain ⟨w, hw, hwl, hsn⟩ : ∃ w, ws[out[i].toNat - 97]'hL.2 = w ∧ w.length ≤ 3 ∧ imgOf ws (out.take (i + 1)) = imgOf ws (out.take i) ++ w :=
        ⟨_, rfl, (nice.len _ (List.getElem_mem hL.2)).2, by rw [take_snoc out hil, imgOf_snoc, List.getD_eq_getElem?_getD, List.getElem?_eq_getElem hL.2]; rfl⟩
      have hil2 := imgOf_len nice (out.take i) fun u hu => hg.ltr u (List.mem_of_mem_take hu)
      have hil3 : (out.take i).length ≤ out.length := by rw [List.length_take]; omega
      have hL2 : (out[i].toNat : Int) - 97 < ([[97, 98], [97, 97]] : List (List UInt8)).length := by rw [← hlen]; omega
      simp (disch := omega)
      refine l01At_does out i _ _ _ (by omega) hx ?_
      simp only [List.length_cons, List.length_nil] at hL2
      simp (disch := omega) [hk, hw]
      refine Rnd.mk' (i + 1) (by omega) (by (repeat (first | exact km | refine kp rfl ?_ | refine km' rfl ?_))) (by simp (disch := omega) [hsn]) ⟨by omega, rfl⟩
    · have hi' : i = out.length := by omega
      subst hi'
      simp (disch := omega)
      refine Rnd.mk' (imgOf ws out, f - 1) (by simp only; omega) (by (repeat (first | exact km | refine kp rfl ?_ | refine km' rfl ?_))) (by simp (disch := omega)) ⟨rfl, hg', by simp only; omega, by simp only; omega, ?_⟩
      simp only
      rw [← growW_step (by omega) hf]; exact he
  · have hmo : m ≤ out.length := by omega
    rw [growW_done hmo] at he
    rw [← he] at h
    simp (disch := omega) [hlt]
    exact ret_sub (hs0.putN hb _) h
theorem l01Named_4 (l : List UInt8) (hl : l = [116, 114, 105, 112, 108, 101]) (ws : List (List UInt8)) (hws : ws = [[97, 98, 99], [97, 99], [98]]) (m : Nat) (M : Mem) (R : Value → Mem → Prop) (hm : m ≤ 60)
    (h : R (.tuple #[str ((growW ws m 60 [97]).take m), .bool true]) M) : Does Tryz.prog 106 [str l, .int .i64 m] M R := by
  have b1 : (l == [102, 105, 98, 111, 110, 97, 99, 99, 105]) = decide (4 = 1) := by rw [hl]; decide
  have b2 : (l == [116, 104, 117, 101]) = decide (4 = 2) := by rw [hl]; decide
  have b3 : (l == [100, 111, 117, 98, 108, 105, 110, 103]) = decide (4 = 3) := by rw [hl]; decide
  have b4 : (l == [116, 114, 105, 112, 108, 101]) = decide (4 = 4) := by rw [hl]; decide
  have hll : l.length ≤ 1099511627776 := by rw [hl]; decide
  have nice : Nice ws := nice_named (l := l) (by rw [hl, hws]; decide)
  have hfew := nice.few
  have hlen : ws.length = ([[97, 98, 99], [97, 99], [98]] : List (List UInt8)).length := by rw [hws]
  clear hl
  refine does_fn tab_ok Tryz.func106 rfl (by kernel_rfl) (by kernel_rfl) Tryz.ntmps106 Tryz.results106 rfl ?_
  simp (disch := omega)
  intro b0 hb0
  simp (disch := omega) [b1, b2, b3, b4]
  intro b hb
  have hV : ([str [97, 98, 99], str [97, 99], str [98]] : List Value) = strs ws := by rw [hws]; rfl
  have hs0 : Sub M (M.put b0 (.cells true [] 0)) := (Sub.refl _).put hb0 _
  rw [hV]
  clear hV hws
  simp (disch := omega)
  refine loop_to tab_ok [7, 8, 9, 24, 25, 26, 27, 28, 29, 30, 31, 32, 33, 34, 35, 36, 37, 38, 39, 40, 41, 42] (fun x : List UInt8 × Nat => [(7, str x.1)]) (fun x M' => M' = (M.put b0 (.cells true [] 0)).put b (.cells true (strs ws) ws.length) ∧ Grown ws x.1 ∧ x.1.length ≤ 180 ∧ m ≤ x.1.length + x.2 ∧ growW ws m x.2 x.1 = growW ws m 60 [97]) (fun x => m - x.1.length) ([97], 60) (by kernel_rfl) (by simp (disch := omega)) ⟨by rw [hlen], ⟨by obtain ⟨p, q, r, hw⟩ := nice.head; intro u hu; rw [List.mem_singleton.1 hu, hw]; exact ⟨by decide, by simp⟩, ⟨[], rfl⟩⟩, by decide, by simp only [List.length_singleton]; omega, rfl⟩ ?_
  rintro ⟨out, f⟩ M' g ⟨rfl, hg, hl1, hf, he⟩
  simp only at hg hl1 hf he
  by_cases hlt : (out.length : Int) < m
  · obtain ⟨hg', hl2⟩ := hg.img nice
    have hl3 := imgOf_len nice out hg.ltr
    simp (disch := omega) [hlt]
    refine loop_to tab_ok [8, 9, 28, 29, 30, 31, 32, 33, 34, 35, 36, 37, 38, 39, 40, 41] (fun i : Nat => [(9, .int .i64 i), (8, str (imgOf ws (out.take i)))]) (fun i M1 => i ≤ out.length ∧ M1 = (M.put b0 (.cells true [] 0)).put b (.cells true (strs ws) ws.length)) (fun i => out.length - i) 0 (by kernel_rfl) (by simp (disch := omega) [imgOf_nil]) ⟨by omega, rfl⟩ ?_
    rintro i M1 g' ⟨hi, rfl⟩
    by_cases hil : i < out.length
    · have hx : out[i]? = some out[i] := List.getElem?_eq_getElem hil
      have hu := out[i].toNat_lt
      have hL := hg.ltr _ (List.getElem_mem hil)
      have hk : ((out[i].toNat : Int) - 97).toNat = out[i].toNat - 97 := by omega
      obtain ⟨w, hw, hwl, hsn⟩ : ∃ w, ws[out[i].toNat - 97]'hL.2 = w ∧ w.length ≤ 3 ∧ imgOf ws (out.take (i + 1)) = imgOf ws (out.take i) ++ w :=
        ⟨_, rfl, (nice.len _ (List.getElem_mem hL.2)).2, by rw [take_snoc out hil, imgOf_snoc, List.getD_eq_getElem?_getD, List.getElem?_eq_getElem hL.2]; rfl⟩
      have hil2 := imgOf_len nice (out.take i) fun u hu => hg.ltr u (List.mem_of_mem_take hu)
      have hil3 : (out.take i).length ≤ out.length := by rw [List.length_take]; omega
      have hL2 : (out[i].toNat : Int) - 97 < ([[97, 98, 99], [97, 99], [98]] : List (List UInt8)).length := by rw [← hlen]; omega
      simp (disch := omega)
      refine l01At_does out i _ _ _ (by omega) hx ?_
      simp only [List.length_cons, List.length_nil] at hL2
      simp (disch := omega) [hk, hw]
      refine Rnd.mk' (i + 1) (by omega) (by (repeat (first | exact km | refine kp rfl ?_ | refine km' rfl ?_))) (by simp (disch := omega) [hsn]) ⟨by omega, rfl⟩
    · have hi' : i = out.length := by omega
      subst hi'
      simp (disch := omega)
      refine Rnd.mk' (imgOf ws out, f - 1) (by simp only; omega) (by (repeat (first | exact km | refine kp rfl ?_ | refine km' rfl ?_))) (by simp (disch := omega)) ⟨rfl, hg', by simp only; omega, by simp only; omega, ?_⟩
      simp only
      rw [← growW_step (by omega) hf]; exact he
  · have hmo : m ≤ out.length := by omega
    rw [growW_done hmo] at he
    rw [← he] at h
    simp (disch := omega) [hlt]
    exact ret_sub (hs0.putN hb _) h
theorem l01Named_does (l : List UInt8) (m : Nat) (M : Mem) (R : Value → Mem → Prop) (hl : l.length ≤ 1099511627776) (hm : m ≤ 60)
    (h : R (match named l with | some ws => .tuple #[str ((growW ws m 60 [97]).take m), .bool true] | none => .tuple #[str [], .bool false]) M) : Does Tryz.prog 106 [str l, .int .i64 m] M R := by
  by_cases e1 : l = [102, 105, 98, 111, 110, 97, 99, 99, 105]
  · exact l01Named_1 l e1 _ rfl m M R hm (by rw [show named l = some [[97, 98], [97]] by rw [e1]; decide] at h; exact h)
  by_cases e2 : l = [116, 104, 117, 101]
  · exact l01Named_2 l e2 _ rfl m M R hm (by rw [show named l = some [[97, 98], [98, 97]] by rw [e2]; decide] at h; exact h)
  by_cases e3 : l = [100, 111, 117, 98, 108, 105, 110, 103]
  · exact l01Named_3 l e3 _ rfl m M R hm (by rw [show named l = some [[97, 98], [97, 97]] by rw [e3]; decide] at h; exact h)
  by_cases e4 : l = [116, 114, 105, 112, 108, 101]
  · exact l01Named_4 l e4 _ rfl m M R hm (by rw [show named l = some [[97, 98, 99], [97, 99], [98]] by rw [e4]; decide] at h; exact h)
  have hn : named l = none := by unfold named; rw [if_neg e1, if_neg e2, if_neg e3, if_neg e4]
  rw [hn] at h
  dsimp only at h
  refine does_fn tab_ok Tryz.func106 rfl (by kernel_rfl) (by kernel_rfl) Tryz.ntmps106 Tryz.results106 rfl ?_
  simp (disch := omega)
  intro b0 hb0
  simp (disch := omega) [beq_no e1, beq_no e2, beq_no e3, beq_no e4]
  exact ret_sub ((Sub.refl _).put hb0 _) h
end Go.Proofs.YthpcojnpiggaiaaGreat
