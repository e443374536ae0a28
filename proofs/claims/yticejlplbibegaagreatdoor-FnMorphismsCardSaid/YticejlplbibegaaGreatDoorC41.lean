/- Contracts: first places of patterns, of the program. -/
import Derived.Test.YticejlplbibegaaGreatDoorC36
import Derived.Test.YticejlplbibegaaGreatDoorEB
import Derived.Test.YticejlplbibegaaGreatDoorC39
import Derived.Test.YticejlplbibegaaGreatDoorCA
import Derived.Test.YticejlplbibegaaGreatDoorC20
import Derived.Test.YticejlplbibegaaGreatDoorC31
import Derived.Test.YticejlplbibegaaGreatDoorM11
namespace Go.Proofs.YticejlplbibegaaGreatDoor
open Go
set_option linter.unusedSimpArgs false
set_option linter.unusedVariables false

def cmpI (a b : Int) : Int := if a < b then -1 else if b < a then 1 else 0
def cmpL (a b : List Nat) : Int := if a = b then 0 else if lexLt a b then -1 else 1
theorem cmpL_same {pre a b : List Nat} : cmpL (pre ++ a) (pre ++ b) = cmpL a b := by
  unfold cmpL
  simp only [lex_app, List.append_right_inj]
theorem cmpL_head {x y : Nat} {a b : List Nat} (h : x ≠ y) : cmpL (x :: a) (y :: b) = cmpI x y := by
  have e : ¬ (x :: a = y :: b) := by intro e; injection e with e _; exact h e
  by_cases h1 : x < y
  · simp [cmpL, lexLt, cmpI, h, h1]
  · have h2 : y < x := by omega
    simp [cmpL, lexLt, cmpI, h, h1, h2]
theorem isNaN_does (a : Int) (M : Mem) (R : Value → Mem → Prop) (h : R (.bool false) M) : Does Tryz.prog 146 [.int .i64 a] M R := by
  refine does_fn tab_ok Tryz.func146 rfl (by kernel_rfl) (by kernel_rfl) Tryz.ntmps146 Tryz.results146 rfl ?_
  simp (disch := omega)
  exact ret_of h
theorem cmpCompare_does (a b : Int) (M : Mem) (R : Value → Mem → Prop) (h : R (.int .i64 (cmpI a b)) M) : Does Tryz.prog 108 [.int .i64 a, .int .i64 b] M R := by
  unfold cmpI at h
  refine does_fn tab_ok Tryz.func108 rfl (by kernel_rfl) (by kernel_rfl) Tryz.ntmps108 Tryz.results108 rfl ?_
  simp (disch := omega)
  refine isNaN_does a _ _ ?_
  simp (disch := omega)
  refine isNaN_does b _ _ ?_
  by_cases h1 : a < b
  · rw [if_pos h1] at h
    simp (disch := omega) [h1]
    exact ret_of h
  · rw [if_neg h1] at h
    by_cases h2 : b < a
    · rw [if_pos h2] at h
      simp (disch := omega) [h1, h2]
      exact ret_of h
    · rw [if_neg h2] at h
      simp (disch := omega) [h1, h2]
      exact ret_of h
theorem cmpOr2_does (v : Value) (x y : Int) (M : Mem) (R : Value → Mem → Prop) (hv : Rd M v (ints [x, y])) (h : R (.int .i64 (if x = 0 then y else x)) M) : Does Tryz.prog 107 [v] M R := by
  obtain ⟨a, c, rfl, ha⟩ := hv.opened
  rcases ha with h0 | ⟨b, o, rfl, ha⟩
  · simp at h0
  have g0 := ha 0 (by simp)
  have g1 := ha 1 (by simp)
  refine does_fn tab_ok Tryz.func107 rfl (by kernel_rfl) (by kernel_rfl) Tryz.ntmps107 Tryz.results107 rfl ?_
  simp (disch := omega)
  refine loop_to tab_ok [2, 5, 8, 9, 10, 11, 12, 13, 14, 15, 16] (fun i : Nat => [(8, .int .i64 i)]) (fun i M' => M' = M ∧ (i = 0 ∨ (i = 1 ∧ x = 0) ∨ (i = 2 ∧ x = 0 ∧ y = 0))) (fun i => 2 - i) 0 (by kernel_rfl) (by simp (disch := omega)) ⟨rfl, .inl rfl⟩ ?_
  rintro i M' g ⟨rfl, hi⟩
  have e0 : (ints [x, y])[0]? = some (.int .i64 x) := rfl
  have e1 : (ints [x, y])[1]? = some (.int .i64 y) := rfl
  rw [e0] at g0
  rw [e1] at g1
  rw [Nat.add_zero] at g0
  rcases hi with rfl | ⟨rfl, rfl⟩ | ⟨rfl, rfl, rfl⟩
  · by_cases hx : x = 0
    · subst hx
      simp (disch := omega) [g0]
      exact Rnd.mk' 1 (by omega) (by (repeat (first | exact km | refine kp rfl ?_ | refine km' rfl ?_))) (by simp (disch := omega)) ⟨rfl, by simp⟩
    · rw [if_neg hx] at h
      simp (disch := omega) [g0, hx]
      exact ret_of h
  · by_cases hy : y = 0
    · subst hy
      simp (disch := omega) [g1]
      exact Rnd.mk' 2 (by omega) (by (repeat (first | exact km | refine kp rfl ?_ | refine km' rfl ?_))) (by simp (disch := omega)) ⟨rfl, by simp⟩
    · rw [if_pos rfl] at h
      simp (disch := omega) [g1, hy]
      exact ret_of h
  · rw [if_pos rfl] at h
    simp (disch := omega)
    exact ret_of h
def fillV (V : Vals) : Vals := V.filter fun u => !u.isEmpty
def plI (w p : List UInt8) : Int := if isWord w && isPat p then (match placeF w p with | some x => (x.1 : Int) | none => 0) else 0
def plL (w p : List UInt8) : Vals := if isWord w && isPat p then (match placeF w p with | some x => fillV x.2 | none => []) else []
def plC (w p : List UInt8) : Int := if isWord w && isPat p then (match placeF w p with | some _ => 0 | none => 4) else 1
def LstI (i : Int) (c : Int) (xs : List Value) (M : Mem) (R : Value → Mem → Prop) : Prop := ∀ v M', Own M v xs M' → R (.tuple #[.int .i64 i, v, .int .i64 c]) M'
theorem Sub.delN {M N : Mem} {b : Nat} (h : Sub M N) (hb : M b = none) : Sub M (N.del b) := by
  intro i B hi
  have hne : i ≠ b := by rintro rfl; rw [hb] at hi; cases hi
  simp only [Mem.del, if_neg hne]
  exact h _ _ hi
theorem del_put_same {M : Mem} {b : Nat} {X : Blk} (h : M b = some X) : (M.del b).put b X = M := by
  funext i
  by_cases e : i = b
  · subst e; rw [put_same, h]
  · rw [put_ne _ _ e]; simp [Mem.del, e]
end Go.Proofs.YticejlplbibegaaGreatDoor
