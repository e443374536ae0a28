/- Merged: C38 C39 C40. -/
import Derived.Test.YthpcojnpiggaiaaGreatM10
import Derived.Test.YthpcojnpiggaiaaGreatCH
import Derived.Test.YthpcojnpiggaiaaGreatC21
import Derived.Test.YthpcojnpiggaiaaGreatC17
/-! Contracts: balanced words of two letters, of the reference. -/
namespace Go.Proofs.YthpcojnpiggaiaaGreat
open Go
set_option linter.unusedSimpArgs false
set_option linter.unusedVariables false

def nB (u : List UInt8) : Int := cnt u 1
theorem nB_snoc (u : List UInt8) (c : UInt8) : nB (u ++ [c]) = nB u + if c = 98 then 1 else 0 := by
  unfold nB
  rw [cnt_snoc]
  congr 1
  have : c.toNat = 97 + 1 ↔ c = 98 := ⟨fun h => UInt8.toNat_inj.1 (by rw [h]; rfl), fun h => by rw [h]; rfl⟩
  simp only [this]
theorem nB_nil : nB [] = 0 := rfl
theorem nB_in (u : List UInt8) : 0 ≤ nB u ∧ nB u ≤ u.length := cnt_le u 1
theorem nB_zero (w : List UInt8) (i : Nat) : nB (seg w i 0) = 0 := by
  unfold seg
  rw [Nat.add_zero, List.drop_of_length_le (by rw [List.length_take]; omega)]
  rfl
theorem seg_snoc {w : List UInt8} {i j : Nat} (h : i + j < w.length) : seg w i (j + 1) = seg w i j ++ [w[i + j]] := by
  unfold seg
  rw [show i + (j + 1) = i + j + 1 by omega, take_snoc w h, List.drop_append_of_le_length (by rw [List.length_take]; omega)]
theorem lo_in {w : List UInt8} {n : Nat} : ∀ i, i + n ≤ w.length + 1 → 0 ≤ loB w n i ∧ loB w n i ≤ n
  | 0, _ => by unfold loB segsA; simp
  | i + 1, h => by
    have h0 := lo_in (w := w) (n := n) i (by omega)
    have h1 := nB_in (seg w i n)
    rw [seg_len (by omega)] at h1
    rw [loB_succ]
    unfold mnF nB at *
    split <;> omega
theorem hi_in {w : List UInt8} {n : Nat} : ∀ i, i + n ≤ w.length + 1 → 0 ≤ hiB w n i ∧ hiB w n i ≤ n
  | 0, _ => by unfold hiB segsA; simp
  | i + 1, h => by
    have h0 := hi_in (w := w) (n := n) i (by omega)
    have h1 := nB_in (seg w i n)
    rw [seg_len (by omega)] at h1
    rw [hiB_succ]
    unfold mxF nB at *
    split <;> omega
end Go.Proofs.YthpcojnpiggaiaaGreat
/-! Contracts: slices.DeleteFunc of strings. -/
namespace Go.Proofs.YthpcojnpiggaiaaGreat
open Go
set_option linter.unusedSimpArgs false
set_option linter.unusedVariables false

/-- Less is told: of fewer blocks, or of fewer cells. -/
def Less (A B : Mem) : Prop := ∀ b X, A b = some X → ∃ Y, B b = some Y ∧ (X = Y ∨ ∃ own xs ys tot, X = .cells own xs tot ∧ Y = .cells own (xs ++ ys) tot)
theorem Less.rep {A B : Mem} {w : World} (h : Less A B) (hw : Rep B w) : Rep A w := by
  intro b X hX
  obtain ⟨Y, hY, e⟩ := h b X hX
  have hold := hw b Y hY
  rcases e with rfl | ⟨own, xs, ys, tot, rfl, rfl⟩
  · exact hold
  · obtain ⟨c, e, fr, h1, h2, ⟨zs, h3⟩, h4⟩ := hold
    exact ⟨c, e, fr, h1, h2, ⟨ys ++ zs, by rw [h3, List.append_assoc]⟩, h4⟩
theorem Less.owns {A B : Mem} {b : Nat} (h : Less A B) (ho : owns A b) : owns B b := by
  obtain ⟨X, hX, o⟩ := ho
  obtain ⟨Y, hY, e⟩ := h b X hX
  rcases e with rfl | ⟨own, xs, ys, tot, rfl, rfl⟩
  · exact ⟨_, hY, o⟩
  · exact ⟨_, hY, o⟩
theorem Sub.less {A B : Mem} (h : Sub A B) : Less A B := fun b X hX => ⟨X, h b X hX, .inl rfl⟩
theorem Does.less {P : Program} {f : FuncId} {args : List Value} {M : Mem} {R R' : Value → Mem → Prop} (h : Does P f args M R') (hr : ∀ v M', R' v M' → ∃ M'', Less M'' M' ∧ R v M'') : Does P f args M R :=
  ⟨h.1, fun w hw => (h.2 w hw).mono fun _ _ ⟨v, M', h1, h2, h3, h4⟩ => by
    obtain ⟨M'', hl, hR⟩ := hr v M' h4
    exact ⟨v, M'', h1, hl.rep h2, ⟨h3.os, h3.tape, h3.output, h3.size, h3.block, fun b hb => h3.own b (hl.owns hb)⟩, hR⟩⟩
/-- A function value that tells p of strings; memory may grow. -/
def TellsS (P : Program) (fv : Value) (ss : List (List UInt8)) (p : List UInt8 → Bool) : Prop :=
  ∀ u ∈ ss, ∀ M R, (∀ M', Sub M M' → R (.bool (p u)) M') → vCallV P fv [str u] R M
theorem idxG_does (v fv : Value) (ss : List (List UInt8)) (p : List UInt8 → Bool) (M : Mem) (R : Value → Mem → Prop) (hv : Rd M v (strs ss)) (hf : TellsS Tryz.prog fv ss p) (hl : ss.length ≤ 1000000)
    (h1 : ∀ (r : Nat) M', Sub M M' → (hr : r < ss.length) → (∀ x ∈ ss.take r, p x = false) → p ss[r] = true → R (.int .i64 r) M') (h0 : ∀ M', Sub M M' → (∀ x ∈ ss, p x = false) → R (.int .i64 (-1)) M') : Does Tryz.prog 146 [v, fv] M R := by
  refine does_fn tab_ok Tryz.func146 rfl (by kernel_rfl) (by kernel_rfl) Tryz.ntmps146 Tryz.results146 rfl ?_
  obtain ⟨a, c, rfl, ha⟩ := hv.opened
  rw [strs_length] at ha ⊢
  simp (disch := omega)
  refine loop_to tab_ok [4, 5, 8, 9, 10, 11, 12, 13, 14, 15, 16, 17, 18] (fun i : Nat => [(8, .int .i64 i)]) (fun i M' => Sub M M' ∧ i ≤ ss.length ∧ ∀ x ∈ ss.take i, p x = false) (fun i => ss.length - i) 0 (by kernel_rfl) (by simp (disch := omega)) ⟨Sub.refl M, by omega, by simp⟩ ?_
  rintro i M' g ⟨hs, hi, hp⟩
  by_cases hlt : i < ss.length
  · rcases ha with hz | ⟨b, o, rfl, ha⟩
    · omega
    have hg := ha i hlt
    rw [strs_get, List.getElem?_eq_getElem hlt] at hg
    have hg' := get_keep hg hs
    have hmem := List.getElem_mem hlt
    have htk := take_snoc ss hlt
    obtain ⟨u, hu⟩ : ∃ u, ss[i] = u := ⟨_, rfl⟩
    rw [hu] at hg' hmem htk
    simp (disch := omega) [hg']
    refine hf u hmem _ _ ?_
    intro M2 s2
    cases hpu : p u
    · simp (disch := omega)
      refine Rnd.mk' (i + 1) (by omega) (by (repeat (first | exact km | refine kp rfl ?_ | refine km' rfl ?_))) (by simp (disch := omega)) ⟨hs.trans s2, by omega, ?_⟩
      rw [htk]
      intro x hx
      rcases List.mem_append.1 hx with h | h
      · exact hp x h
      · rw [List.mem_singleton.1 h]; exact hpu
    · simp (disch := omega)
      exact ret_of (h1 i _ (hs.trans s2) hlt hp (by rw [hu]; exact hpu))
  · have hi' : i = ss.length := by omega
    subst hi'
    rw [List.take_length] at hp
    simp (disch := omega)
    exact ret_of (h0 _ hs hp)
end Go.Proofs.YthpcojnpiggaiaaGreat
/-! Contracts: balanced words of two letters. -/
namespace Go.Proofs.YthpcojnpiggaiaaGreat
open Go
set_option linter.unusedSimpArgs false
set_option linter.unusedVariables false

theorem balL_len (m : Nat) : (balL m).length ≤ 2 ^ m := by
  rw [balL_is, ← allW_len 2 m]
  exact List.length_filter_le _ _
theorem balL_word {m : Nat} {w : List UInt8} (h : w ∈ balL m) : w.length = m ∧ AB w := by
  rw [balL_is] at h
  have := (List.mem_filter.1 h).1
  exact ⟨allW_word 2 m w this, allW_ab m w this⟩
theorem pow2_le {m : Nat} (h : m ≤ 10) : 2 ^ m ≤ 1024 := Nat.pow_le_pow_right (by omega) h
def grB (out : List (List UInt8)) : List (List UInt8) := (growA out 2).filter balB2
theorem grB_snoc (out : List (List UInt8)) (w : List UInt8) : grB (out ++ [w]) = grB out ++ (grow1 w 2).filter balB2 := by
  unfold grB
  rw [growA_snoc, List.filter_append]
theorem grow1_in {w x : List UInt8} {c : Nat} (h : x ∈ grow1 w c) : x.length = w.length + 1 := by
  obtain ⟨y, _, rfl⟩ := List.mem_map.1 h
  simp
def inB (n : Int) : Bool := decide (0 ≤ n ∧ n ≤ 10)
def balR (n : Int) : List (List UInt8) := if inB n then balL n.toNat else []
def balC (n : Int) : Int := if inB n then 0 else 2
end Go.Proofs.YthpcojnpiggaiaaGreat
