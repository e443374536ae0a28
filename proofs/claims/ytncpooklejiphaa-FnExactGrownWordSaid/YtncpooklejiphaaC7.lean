/- Contracts: desks and morphisms as values: new ones, equality, marks. -/
import Derived.Test.YtncpooklejiphaaC5
namespace Go.Proofs.Ytncpooklejiphaa
open Go
set_option linter.unusedSimpArgs false
set_option linter.unusedVariables false

theorem Own.push {M M' : Mem} {v : Value} {xs : List Value} (h : Own M v xs M') {b : Nat} (hb : M' b = none) (B : Blk) : Own (M.put b B) v xs (M'.put b B) := by
  rcases h with ⟨rfl, rfl, rfl⟩ | ⟨b', c, rfl, hM, hc, rfl⟩
  · exact Own.nil _
  · have hne : b ≠ b' := by rintro rfl; rw [put_same] at hb; cases hb
    refine .inr ⟨b', c, rfl, by rw [put_none]; exact ⟨Ne.symm hne, hM⟩, hc, ?_⟩
    funext i
    simp only [Mem.put]
    by_cases h1 : i = b
    · rw [if_pos h1, if_neg (by rw [h1]; exact hne), if_pos h1]
    · rw [if_neg h1, if_neg h1]
theorem set_is (M : Mem) (b : Nat) (B : Blk) : M.set b B = M.put b B := rfl
/-- Writing another block. -/
theorem Own.other {M M' : Mem} {v : Value} {xs : List Value} {b : Nat} {B0 : Blk} (h : Own M v xs M') (hb : M b = some B0) (B : Blk) : Own (M.put b B) v xs (M'.put b B) := by
  rcases h with ⟨rfl, rfl, rfl⟩ | ⟨b', c, rfl, hM, hc, rfl⟩
  · exact Own.nil _
  · have hne : b ≠ b' := by rintro rfl; rw [hM] at hb; cases hb
    refine .inr ⟨b', c, rfl, by rw [put_none]; exact ⟨Ne.symm hne, hM⟩, hc, ?_⟩
    funext i
    simp only [Mem.put]
    by_cases h1 : i = b
    · rw [if_pos h1, if_neg (by rw [h1]; exact hne), if_pos h1]
    · rw [if_neg h1, if_neg h1]
theorem put_put (M : Mem) (b : Nat) (A B : Blk) : (M.put b A).put b B = M.put b B := by
  funext i; simp only [Mem.put]; split <;> rfl
def deskV (w p : List UInt8) (v : Value) : Value := .agg #[str w, str p, v]
theorem eqMorphism_does (v v' : Value) (xs ys : List (List UInt8)) (M : Mem) (R : Value → Mem → Prop) (hx : Rd M v (strs xs)) (hy : Rd M v' (strs ys)) (hl : xs.length ≤ 1099511627776) (hl' : ys.length ≤ 1099511627776)
    (h : R (.bool (xs == ys)) M) : Does Try.prog 16 [.agg #[v], .agg #[v']] M R := by
  refine does_fn tab_ok Try.func16 rfl (by kernel_rfl) (by kernel_rfl) Try.ntmps16 Try.results16 rfl ?_
  obtain ⟨a, c, rfl, ha⟩ := hx.opened
  obtain ⟨a', c', rfl, ha'⟩ := hy.opened
  rw [strs_length] at hx hy ⊢
  rw [strs_length]
  simp (disch := omega)
  intro b1 hb1
  simp (disch := omega)
  intro b2 hb2
  simp (disch := omega)
  have h2 := hb2
  rw [put_none] at h2
  simp (disch := omega) [h2.1, Ne.symm h2.1]
  refine eqStringS_does _ _ xs ys _ _ ((hx.put hb1 _).put hb2 _) ((hy.put hb1 _).put hb2 _) hl hl' ?_
  have hs : Sub M ((M.put b1 (.cells true [.slice a xs.length c] 1)).put b2 (.cells true [.slice a' ys.length c'] 1)) := ((Sub.refl _).put hb1 _).putN hb2 _
  cases he : (xs == ys)
  · rw [he] at h
    simp (disch := omega)
    exact ret_sub hs h
  · rw [he] at h
    simp (disch := omega)
    exact ret_sub hs h
theorem markMorphism_does (v : Value) (xs : List Value) (k : Int) (M M1 : Mem) (R : Value → Mem → Prop) (hv : Own M v xs M1) (hl : xs.length ≤ 1099511627776) (h0 : 0 ≤ k) (hk : k ≤ 1099511627776)
    (h : ∀ N M2, Sub M N → Own N v (markS k xs.length) M2 → R (.int .i64 (k + xs.length)) M2) : Does Try.prog 20 [.agg #[v], .int .i64 k] M1 R := by
  refine does_fn tab_ok Try.func20 rfl (by kernel_rfl) (by kernel_rfl) Try.ntmps20 Try.results20 rfl ?_
  obtain ⟨a, c, rfl, ha⟩ := hv.rd.opened
  simp (disch := omega)
  intro b1 hb1
  simp (disch := omega)
  have hM : M b1 = none := by
    cases hMb : M b1 with
    | none => rfl
    | some B => rw [hv.sub _ _ hMb] at hb1; cases hb1
  refine markStringS_does _ xs k _ _ _ (hv.push hb1 _) hl h0 hk ?_
  intro M2 o2
  simp (disch := omega)
  exact ret_of (h _ M2 ((Sub.refl _).put hM _) o2)
end Go.Proofs.Ytncpooklejiphaa
